/- Own text. -/
import Derived.Test.YtfnegoimdljanaaGreatDoorACode
import Derived.Test.YtfnegoimdljanaaGreatDoorAC1
import Derived.Test.YtfnegoimdljanaaGreatDoorAC19
import Derived.Test.YtfnegoimdljanaaGreatDoorAbsOkD
namespace Go.Proofs.YtfnegoimdljanaaGreatDoor
open Go Go.Abs Go.Abs.E Go.Abs.L
set_option linter.unusedSimpArgs false
set_option linter.unusedVariables false
set_option maxRecDepth 20000
set_option maxHeartbeats 4000000
def evZ:Zn:=⟨0,0,bx0,ln0,BT.waste.plan⟩
def evM (m:Option Ev):Zn:=match m with
 | some v=>v.ev
 | none=>evZ
def PeR (res:Option (AV×List Zm)) (m:Option Ev):Prop:=∃ (K L X Y W H pW pH:Int) (pT:Bool) (pK C o a q:Int) (t:Bool) (ks:List Ze),
 res=some (.tup [.agg [(.d (J K)),(.d (J L)),(.d (J X)),(.d (J Y)),(.d (J W)),(.d (J H)),(.d (J pW)),(.d (J pH)),(.d (.bool pT)),(.d (J pK)),(.d (J C)),(.d (J o)),(.d (J a)),(.d (J q)),(.d (.bool t)),.own 0],(.d (.bool (m.isSome)))],[.row 5 (ks.map Ze.enc) true false]) ∧
 Zn.mk K L ⟨X,Y,W,H⟩ ⟨⟨pW,pH,pT,pK⟩,C⟩ (.mk o a q t ks)=evM m
theorem ZBf {res:Option (AV×List Zm)} (h:res=some (.tup [.agg [(.d (J 0)),(.d (J 0)),(.d (J 0)),(.d (J 0)),(.d (J 0)),(.d (J 0)),(.d (J 0)),(.d (J 0)),(.d (.bool false)),(.d (J 0)),(.d (J 0)),(.d (J 0)),(.d (J 0)),(.d (J 0)),(.d (.bool false)),.own 0],(.d (.bool false))],[.row 5 [] true false])):PeR res none:=
 ⟨0,0,0,0,0,0,0,0,false,0,0,0,0,0,false,[],h,rfl⟩
def PeT (res:Option (AV×List Zm)) (m:Option Ev):Prop:=∃ (K L X Y W H pW pH:Int) (pT:Bool) (pK C o a q:Int) (t:Bool) (ks:List Ze),
 res=some (.tup [.agg [(.d (J K)),(.d (J L)),(.d (J X)),(.d (J Y)),(.d (J W)),(.d (J H)),(.d (J pW)),(.d (J pH)),(.d (.bool pT)),(.d (J pK)),(.d (J C)),(.d (J o)),(.d (J a)),(.d (J q)),(.d (.bool t)),.own 0],(.d (.bool (m.isSome)))],[plO ks]) ∧
 Zn.mk K L ⟨X,Y,W,H⟩ ⟨⟨pW,pH,pT,pK⟩,C⟩ (.mk o a q t ks)=evM m
theorem Zk7 {res:Option (AV×List Zm)} (h:res=some (.tup [.agg [(.d (J 0)),(.d (J 0)),(.d (J 0)),(.d (J 0)),(.d (J 0)),(.d (J 0)),(.d (J 0)),(.d (J 0)),(.d (.bool false)),(.d (J 0)),(.d (J 0)),(.d (J 0)),(.d (J 0)),(.d (J 0)),(.d (.bool false)),.own 0],(.d (.bool false))],[.row 5 [] true false])):PeT res none:=
 ⟨0,0,0,0,0,0,0,0,false,0,0,0,0,0,false,[],h,rfl⟩
def rcM (s:List UInt8):Option Ev:=match Xp 32 s with
 | none=>none
 | some i=>(rd (s.take i)).bind fun l=>(Zgg (s.drop (i+1))).bind fun b=>some (.cut l b)
theorem ZFb:Zgg []=none:=rfl
theorem Zxm (s:List UInt8) (hs:s.length≤1048576):PeT (Zd Xs Ms 71 [.d (.str s)] []) (rcM s):=by
 have e1:=ZdN s 32 hs;unfold rcM;cases hi:Xp 32 s with
 | none=>
  rw[hi] at e1;simp only at e1 ⊢;have e2:=UT s;obtain⟨o,a,q,t,ks,e3,h3⟩:=Ziu [] (by simp);rw[ZFb] at e3;simp only[Kw] at e3;refine Zk7 ?_;cases hr:rd s with
  | none=>
   rw[hr] at e2;simp only[ZgR] at e2;refine cE ?_;cases ks<;>simp +contextual -implicitDefEqProofs only[go_sem,seval,WV,e1,e2,e3]
  | some v=>
   rw[hr] at e2;simp only[ZgR] at e2;refine cE ?_;cases ks<;>simp +contextual -implicitDefEqProofs only[go_sem,seval,WV,e1,e2,e3]
 | some i=>
  rw[hi] at e1;simp only at e1 ⊢;have e2:=UT (s.take i);obtain⟨o,a,q,t,ks,e3,h3⟩:=Ziu (s.drop (i+1)) (by simp;omega);cases hr:rd (s.take i) with
  | none=>
   rw[hr] at e2;simp only[ZgR] at e2;refine Zk7 ?_;refine cE ?_;cases ks<;>simp +contextual -implicitDefEqProofs only[go_sem,seval,WV,e1,e2,e3]
  | some v=>
   rw[hr] at e2;simp only[ZgR] at e2;cases hp:Zgg (s.drop (i+1)) with
   | none=>
    rw[hp] at e3;simp only[Kw] at e3;refine Zk7 ?_;refine cE ?_;cases ks<;>simp +contextual -implicitDefEqProofs only[go_sem,seval,WV,e1,e2,e3]
   | some b=>
    rw[hp] at e3 h3;simp only[K4] at e3;refine⟨3,v,0,0,0,0,0,0,false,0,0,o,a,q,t,ks,?_,?_⟩
    ·refine cE ?_;cases ks<;>simp +contextual -implicitDefEqProofs only[go_sem,seval,WV,e1,e2,e3]
     all_goals rfl
    ·rw[h3];rfl
theorem Zme (w:List UInt8) (vs:List Nat) (hl:vs.length≤2000000):PeT (Zd Xs Ms 74 [.d (.str w),.d (.sl ((vs.map fun n:Nat=>(n:Int)).map X3))] []) (ZgU w vs):=by
 by_cases h3:w=QN∧vs.length=3
 ·obtain⟨rfl,h⟩:=h3;obtain⟨a,b,c,rfl⟩:∃ a b c,vs=[a,b,c]:=by
   match vs,h with
   | [a,b,c],_=>exact⟨a,b,c,rfl⟩
  refine⟨0,a,0,0,b,c,0,0,false,0,0,0,0,0,false,[],?_,rfl⟩;simp only[Kk,Ks,X3,QN];refine cE ?_;simp +contextual -implicitDefEqProofs (maxSteps:=10^7) only[go_sem,seval,QP]
  all_goals rfl
 by_cases h5:w=Xq∧vs.length=5
 ·obtain⟨rfl,h⟩:=h5;obtain⟨a,b,c,d,f,rfl⟩:∃ a b c d f,vs=[a,b,c,d,f]:=by
   match vs,h with
   | [a,b,c,d,f],_=>exact⟨a,b,c,d,f,rfl⟩
  refine⟨1,a,b,c,d,f,0,0,false,0,0,0,0,0,false,[],?_,rfl⟩;have q1:(Xq==[115,104,101,101,116])=false:=rfl;have q2:(Xq==[102,108,97,119])=true:=rfl;simp only[Kk,Ks,X3];refine cE ?_;simp +contextual -implicitDefEqProofs (maxSteps:=10^7) only[go_sem,seval,QP,q1,q2]
  all_goals rfl
 by_cases h1:w=Xj∧vs.length=1
 ·obtain⟨rfl,h⟩:=h1;obtain⟨a,rfl⟩:∃ a,vs=[a]:=by
   match vs,h with
   | [a],_=>exact⟨a,rfl⟩
  refine⟨5,a,0,0,0,0,0,0,false,0,0,0,0,0,false,[],?_,rfl⟩;have q1:(Xj==[115,104,101,101,116])=false:=rfl;have q2:(Xj==[102,108,97,119])=false:=rfl;have q3:(Xj==[115,99,114,97,112])=true:=rfl;simp only[Kk,Ks,X3];refine cE ?_;simp +contextual -implicitDefEqProofs (maxSteps:=10^7) only[go_sem,seval,QP,q1,q2,q3]
  all_goals rfl
 ·have aa:ZgU w vs=none:=by
   unfold ZgU;split
   ·rw[Kd (fun e=>h1 ⟨e,rfl⟩)]
   ·rw[Kd (fun e=>h3 ⟨e,rfl⟩)]
   ·rw[Kd (fun e=>h5 ⟨e,rfl⟩)]
   ·rfl
  rw[aa];refine Zk7 ?_;have p1:(w==[115,104,101,101,116])=true→¬(vs.length:Int)=3:=fun h e=>h3 ⟨by simpa [QN] using h,by omega⟩;have p2:(w==[102,108,97,119])=true→¬(vs.length:Int)=5:=fun h e=>h5 ⟨by simpa [Xq] using h,by omega⟩;have p3:(w==[115,99,114,97,112])=true→¬(vs.length:Int)=1:=fun h e=>h1 ⟨by simpa [Xj] using h,by omega⟩;cases q1:(w==[115,104,101,101,116]) with
  | true=>
   have e:w=QN:=by simpa [QN] using q1
   have q2:(w==[102,108,97,119])=false:=by rw[e];rfl
   have q3:(w==[115,99,114,97,112])=false:=by rw[e];rfl
   have p1:=p1 q1;refine cE ?_;simp +contextual -implicitDefEqProofs (maxSteps:=10^7) only[go_sem,seval,QP,q1,q2,q3,p1,KC]
  | false=>
   cases q2:(w==[102,108,97,119]) with
   | true=>
    have e:w=Xq:=by simpa [Xq] using q2
    have q3:(w==[115,99,114,97,112])=false:=by rw[e];rfl
    have p2:=p2 q2;refine cE ?_;simp +contextual -implicitDefEqProofs (maxSteps:=10^7) only[go_sem,seval,QP,q1,q2,q3,p2,KC]
   | false=>
    cases q3:(w==[115,99,114,97,112]) with
    | true=>
     have p3:=p3 q3;refine cE ?_;simp +contextual -implicitDefEqProofs (maxSteps:=10^7) only[go_sem,seval,QP,q1,q2,q3,p3,KC]
    | false=>
     refine cE ?_;simp +contextual -implicitDefEqProofs (maxSteps:=10^7) only[go_sem,seval,QP,q1,q2,q3]
theorem Zk8:∀ ws:List (List UInt8),Yx ws=(Zcf ws).map fun ns=>ns.map fun n:Nat=>(n:Int)
 | []=>rfl
 | w :: r=>by
  simp only[Yx,Zcf,Zk8 r];cases rd w with
  | none=>rfl
  | some v=>cases Zcf r<;>rfl
theorem Zy6 (s:List UInt8):ZCH (ZL 32 s)=rcM s:=by
 rw[Zdx];unfold rcM;cases hi:Xp 32 s with
 | none=>rfl
 | some i=>
  simp only;rw[Zdx 32 (s.drop (i+1))];cases hj:Xp 32 (s.drop (i+1)) with
  | none=>rfl
  | some j=>
   simp only;have aa:Zgg (s.drop (i+1))=none:=by
    cases hp:Zgg (s.drop (i+1)) with
    | none=>rfl
    | some b=>
     obtain⟨_,h2,_⟩:=ZjO.1 hp;obtain⟨h3,_⟩:=JD hj;have h4:(32:UInt8)∉shw b:=Zxl rfl (by decide) b;rw[← h2] at h4;exact absurd (by rw[h3];simp) h4
   rw[aa];have ab:=Ub 32 ((s.drop (i+1)).drop (j+1));cases hs:ZL 32 ((s.drop (i+1)).drop (j+1)) with
   | nil=>exact absurd hs ab
   | cons x r=>cases rd (s.take i)<;>rfl
def Zrv (w rest:List UInt8):Option Ev:=if w=Yj then (Zgj (ZL 32 rest)).bind fun n=>some (.order n)
 else if w=Yk then (Zgj (ZL 32 rest)).bind fun n=>some (.brk n)
 else if w=ZbT then rcM rest else (Zcf (ZL 32 rest)).bind (ZgU w)
theorem ZFc (s:List UInt8):Zik s=match Xp 32 s with
  | none=>Zrv s []
  | some i=>Zrv (s.take i) (s.drop (i+1)):=by
 unfold Zik Zrv;rw[Zdx];cases hi:Xp 32 s with
 | none=>
  simp only[Uc];by_cases h1:s=Yj
  ·rw[Kg h1,Kg h1];rfl
  rw[Kd h1,Kd h1];by_cases h2:s=Yk
  ·rw[Kg h2,Kg h2];rfl
  rw[Kd h2,Kd h2];by_cases h3:s=ZbT
  ·rw[Kg h3,Kg h3];rfl
  rw[Kd h3,Kd h3];rfl
 | some i=>
  simp only[Uc,Zy6]
theorem Zp1 (s:List UInt8) (hs:s.length≤1048576):PeT (Zd Xs Ms 37 [.d (.str s)] []) (Zik s):=by
 have e1:=ZdN s 32 hs;have ab:∀ (w aa:List UInt8) (f:Bool),aa.length≤s.length→Zd Xs Ms 36 [.d (.str s),.d (.str [32])] []=some (.tup [.d (.str w),.d (.str aa),(.d (.bool f))],[])→PeT (Zd Xs Ms 37 [.d (.str s)] []) (Zrv w aa):=by
  intro w aa f hr e1;have e2:=Zun aa (by omega);unfold Zrv;by_cases h1:w=Yj∨w=Yk
  ·rcases h1 with rfl | rfl
   ·rw[Kg rfl];have q1:(Yj==[111,114,100,101,114])=true:=rfl;have q2:(Yj==[98,114,101,97,107])=false:=rfl;cases hl:Zgj (ZL 32 aa) with
    | none=>
     rw[hl] at e2;simp only[rlV] at e2;refine Zk7 ?_;refine cE ?_;simp +contextual -implicitDefEqProofs (maxSteps:=10^7) only[go_sem,seval,Xv,e1,q1,q2,e2]
    | some l=>
     obtain⟨⟨W,H,T,K⟩,C⟩:=l;rw[hl] at e2;simp only[rlV,Zc.enc] at e2;refine⟨2,0,0,0,0,0,W,H,T,K,C,0,0,0,false,[],?_,rfl⟩;refine cE ?_;simp +contextual -implicitDefEqProofs (maxSteps:=10^7) only[go_sem,seval,Xv,e1,q1,q2,e2]
     all_goals rfl
   ·rw[Kd (by decide),Kg rfl];have q1:(Yk==[111,114,100,101,114])=false:=rfl;have q2:(Yk==[98,114,101,97,107])=true:=rfl;cases hl:Zgj (ZL 32 aa) with
    | none=>
     rw[hl] at e2;simp only[rlV] at e2;refine Zk7 ?_;refine cE ?_;simp +contextual -implicitDefEqProofs (maxSteps:=10^7) only[go_sem,seval,Xv,e1,q1,q2,e2]
    | some l=>
     obtain⟨⟨W,H,T,K⟩,C⟩:=l;rw[hl] at e2;simp only[rlV,Zc.enc] at e2;refine⟨4,0,0,0,0,0,W,H,T,K,C,0,0,0,false,[],?_,rfl⟩;refine cE ?_;simp +contextual -implicitDefEqProofs (maxSteps:=10^7) only[go_sem,seval,Xv,e1,q1,q2,e2]
     all_goals rfl
  have n1:¬w=Yj:=fun h=>h1 (.inl h);have n2:¬w=Yk:=fun h=>h1 (.inr h);have q1:(w==[111,114,100,101,114])=false:=by simpa [Yj] using n1
  have q2:(w==[98,114,101,97,107])=false:=by simpa [Yk] using n2
  rw[Kd n1,Kd n2];by_cases h3:w=ZbT
  ·rw[Kg h3];have q3:(w==[99,117,116])=true:=by rw[h3];rfl
   obtain⟨K,L,X,Y,W,H,pW,pH,pT,pK,C,o,a,q,t,ks,e3,h⟩:=Zxm aa (by omega);refine⟨K,L,X,Y,W,H,pW,pH,pT,pK,C,o,a,q,t,ks,?_,h⟩;refine cE ?_;cases ks<;>simp +contextual -implicitDefEqProofs only[go_sem,seval,Xv,e1,q1,q2,q3,e3]
  ·rw[Kd h3];have q3:(w==[99,117,116])=false:=by simpa [ZbT] using h3
   have e3:=Zgl aa 32 (by omega);have hc:(ZL 32 aa).length≤1048577:=by rw[Zgk];have:aa.count 32≤aa.length:=Kar;omega
   generalize ZL 32 aa=ws at e3 hc;have e4:=Zgm ws (by omega);have ad:List.take ws.length (List.map D.str ws)=List.map D.str ws:=KJ (by simp);rw[Zk8] at e4;cases hn:Zcf ws with
   | none=>
    rw[hn] at e4;simp only[Option.map_none,rnV] at e4;refine Zk7 ?_;refine cE ?_;simp +contextual -implicitDefEqProofs (maxSteps:=10^7) only[go_sem,seval,Xv,e1,q1,q2,q3,e3,e4,ad,List.drop_zero]
   | some ns=>
    rw[hn] at e4;simp only[Lc,rnV] at e4;have ae:ns.length≤1048577:=by
     have:=(Ziw hn).1;rw[this,KC] at hc;exact hc
    simp only[KT];obtain⟨K,L,X,Y,W,H,pW,pH,pT,pK,C,o,a,q,t,ks,e5,h⟩:=Zme w ns (by omega);refine⟨K,L,X,Y,W,H,pW,pH,pT,pK,C,o,a,q,t,ks,?_,h⟩;refine cE ?_;cases ks<;>simp +contextual -implicitDefEqProofs only[go_sem,seval,Xv,e1,q1,q2,q3,e3,e4,ad,List.drop_zero,e5]
 rw[ZFc];cases hi:Xp 32 s with
 | none=>
  rw[hi] at e1;exact ab _ _ _ (by simp) e1
 | some i=>
  rw[hi] at e1;exact ab _ _ _ (by simp) e1
theorem ZdS:Zl8 .waste:=⟨by decide,rfl,by decide⟩
theorem ZGI {v:Ev} (h:v.ok):Zay v.ev=some v:=by
 cases v with
 | sheet l w g=>
  obtain⟨h1,h2,h3⟩:=h;rw[YO (b:=.waste) (by simp[Yy,Ev.ev,six,ln0];omega) (XI .waste) ZdS];simp[Yz,Ev.ev]
 | flaw l x y w g=>
  obtain⟨h1,h2,h3,h4,h5⟩:=h;rw[YO (b:=.waste) (by simp[Yy,Ev.ev,six,ln0];omega) (XI .waste) ZdS];simp[Yz,Ev.ev]
 | order n=>
  obtain⟨h1,h2,h3,h4⟩:=h;simp only[six] at h1 h2 h3 h4;rw[YO (b:=.waste) (by simp[Yy,Ev.ev,six,bx0];omega) (XI .waste) ZdS];simp[Yz,Ev.ev]
 | cut l b=>
  obtain⟨h1,h2⟩:=h;rw[YO (b:=b) (by simp[Yy,Ev.ev,six,bx0,ln0];omega) (XI b) h2];simp[Yz,Ev.ev]
 | brk n=>
  obtain⟨h1,h2,h3,h4⟩:=h;simp only[six] at h1 h2 h3 h4;rw[YO (b:=.waste) (by simp[Yy,Ev.ev,six,bx0];omega) (XI .waste) ZdS];simp[Yz,Ev.ev]
 | scrap l=>
  have h1:l≤999999:=h;rw[YO (b:=.waste) (by simp[Yy,Ev.ev,six,bx0,ln0];omega) (XI .waste) ZdS];simp[Yz,Ev.ev]
theorem ZGJ {e:Zn} {v:Ev} (hv:Zay e=some v):v.ok∧v.ev.kind=e.kind:=by
 have aa:∀ n∈Yy e,six n:=Classical.byContradiction fun h=>by rw[Zix h] at hv;cases hv
 obtain⟨b,hb,ab⟩:∃ b,QU e.plan=some b∧Zl8 b:=Classical.byContradiction fun h=>by
  rw[ZdQ (e:=e) fun b hb hp=>h ⟨b,hb,hp⟩] at hv;cases hv
 rw[YO aa hb ab] at hv;simp only[Yy,Ke,KL,or_false,forall_eq_or_imp,forall_eq] at aa;obtain⟨n1,n2,n3,n4,n5,n6,n7,n8,n9,ae⟩:=aa;have ad:Zro e.line:=⟨ae,n7,n8,n9⟩
 simp only[six] at n2 n3 n4 n5 n6;unfold Yz at hv;by_cases k0:e.kind=0
 ·rw[Kg k0] at hv;split at hv
  ·cases hv;exact⟨⟨by omega,by omega,by omega⟩,k0.symm⟩
  ·cases hv
 rw[Kd k0] at hv;by_cases k1:e.kind=1
 ·rw[Kg k1] at hv;cases hv;exact⟨⟨by omega,by omega,by omega,by omega,by omega⟩,k1.symm⟩
 rw[Kd k1] at hv;by_cases k2:e.kind=2
 ·rw[Kg k2] at hv;cases hv;exact⟨ad,k2.symm⟩
 rw[Kd k2] at hv;by_cases k3:e.kind=3
 ·rw[Kg k3] at hv;cases hv;exact⟨⟨by omega,ab⟩,k3.symm⟩
 rw[Kd k3] at hv;by_cases k4:e.kind=4
 ·rw[Kg k4] at hv;cases hv;exact⟨ad,k4.symm⟩
 rw[Kd k4] at hv;by_cases k5:e.kind=5
 ·rw[Kg k5] at hv;cases hv;exact⟨by show e.label.toNat≤999999;omega,k5.symm⟩
 ·rw[Kd k5] at hv;cases hv
theorem ZDL {v:Ev} (h:v.ok):v.words.length≤6∧∀ w∈v.words,w.length≤1600:=by
 have nl:∀ n:Nat,n≤999999→(num n).length≤1600:=fun n hn=>by have:=Yi 5 n (by omega);omega
 have ln:∀ l:Zc,Zro l→(XE l).length=5∧∀ w∈XE l,w.length≤1600:=by
  intro l hl;obtain⟨h1,h2,h3,h4⟩:=hl;simp only[six] at h1 h2 h3 h4;refine⟨rfl,fun w hw=>?_⟩;simp only[XE,Ke,KL,or_false] at hw;rcases hw with rfl | rfl | rfl | rfl | rfl
  ·exact nl _ (by omega)
  ·exact nl _ (by omega)
  ·exact nl _ (by omega)
  ·cases l.Pane.Turns<;>decide
  ·exact nl _ (by omega)
 cases v with
 | sheet l w g=>
  obtain⟨h1,h2,h3⟩:=h;refine⟨by simp[Ev.words],fun x hx=>?_⟩;simp only[Ev.words,Ke,KL,or_false] at hx;rcases hx with rfl | rfl | rfl | rfl
  ·decide
  ·exact nl _ h1
  ·exact nl _ h2
  ·exact nl _ h3
 | flaw l a b w g=>
  obtain⟨h1,h2,h3,h4,h5⟩:=h;refine⟨by simp[Ev.words],fun x hx=>?_⟩;simp only[Ev.words,Ke,KL,or_false] at hx;rcases hx with rfl | rfl | rfl | rfl | rfl | rfl
  ·decide
  ·exact nl _ h1
  ·exact nl _ h2
  ·exact nl _ h3
  ·exact nl _ h4
  ·exact nl _ h5
 | order n=>
  obtain⟨g1,g2⟩:=ln n h;refine⟨by simp only[Ev.words,Kl];omega,fun x hx=>?_⟩;rcases Ke.1 hx with rfl | hx
  ·decide
  ·exact g2 x hx
 | cut l b=>
  obtain⟨h1,h2⟩:=h;refine⟨by simp[Ev.words],fun x hx=>?_⟩;simp only[Ev.words,Ke,KL,or_false] at hx;rcases hx with rfl | rfl | rfl
  ·decide
  ·exact nl _ h1
  ·exact h2.2.2
 | brk n=>
  obtain⟨g1,g2⟩:=ln n h;refine⟨by simp only[Ev.words,Kl];omega,fun x hx=>?_⟩;rcases Ke.1 hx with rfl | hx
  ·decide
  ·exact g2 x hx
 | scrap l=>
  refine⟨by simp[Ev.words],fun x hx=>?_⟩;simp only[Ev.words,Ke,KL,or_false] at hx;rcases hx with rfl | rfl
  ·decide
  ·exact nl _ h
theorem ZFd {v:Ev} (h:v.ok):v.text.length≤20000:=by
 obtain⟨h1,h2⟩:=ZDL h;have h3:=ZnF 32 1600 v.words h2;have:v.words.length*1601≤6*1601:=KP _ h1;unfold Ev.text;omega
theorem ZGK (v:Ev):(v.text==[])=false:=by cases v<;>rfl
theorem Zrw (ws:List (List UInt8)) (hw:ws.length≤2000000) (hl:∀ w∈ws,w.length≤1048576):Zd Xs Ms 163 [.d (.sl (ws.map .str))] []=some (rnV (Yx ws)):=by
 refine cE ?_;simp +contextual -implicitDefEqProofs (maxSteps:=10^7) only[go_sem,seval,ZfO];refine LO (α:=Nat×List Int) (fun a=>[(5,.d (J (a.1:Int)))]) (fun a=>[(0,.row 1 (a.2.map X3) true false)]) (fun a=>a.1≤ws.length∧a.2.length≤a.1∧Yx ws=(Yx (ws.drop a.1)).map fun r=>a.2++r) (fun a=>ws.length-a.1) (0,[]) ⟨by simp,by simp,by simp⟩ ?_;intro⟨k,vs⟩ ⟨hk,hv,hp⟩ ih;simp only at hk hv hp ih ⊢;by_cases ad:k<ws.length
 ·obtain⟨x,hx⟩:=Zp ad;have aa : (k:Int)<(ws.length:Int):=by omega
  have w:=Zg (k:=k) (by omega);have e1:=Yc x (hl x (Kc hx));rw[ZyZ hx] at hp;have ab:(vs.length+1)*8≤140737488355328∧vs.length+1≤140737488355328:=by omega
  have ae:(ws.map D.str)[k]?=some (.str x):=by rw[K0,hx];rfl
  cases hr:rd x with
  | none=>
   rw[hr] at hp;rw[Zl4 hr] at e1;simp only[LZ,Option.map_none] at hp;rw[hp];simp +contextual -implicitDefEqProofs only[go_sem,seval,aa,ad,ae,hx,w,e1,rnV]
  | some v=>
   rw[hr] at hp;rw[ZbS hr] at e1;have af:¬(v:Int)<0:=by omega
   simp +contextual -implicitDefEqProofs only[go_sem,seval,aa,ad,ae,hx,w,e1,ab,af];refine ih (k+1,vs++[(v:Int)]) _ ⟨by omega,by simp;omega,?_⟩ (by omega) ?_
   ·rw[hp];cases Yx (ws.drop (k+1))<;>simp
   ·simp +contextual -implicitDefEqProofs only[go_sem,seval,X3,KI,Kk,Ks]
 ·have:k=ws.length:=by omega
  subst this;simp only[List.drop_length,Yx,Lc,KF] at hp;rw[hp];simp +contextual -implicitDefEqProofs only[go_sem,seval,rnV]
def Zkq:List (List UInt8):=[QN,Xq,Yj,ZbT,Yk,Xj]
theorem XW:Zkq.length=6:=rfl
def Vv (w:List UInt8):List Int→Zn×Bool
 | [l]=>if w=Xj then (⟨5,l,bx0,ln0,BT.waste.plan⟩,true) else (evZ,false)
 | [l,a,b]=>if w=QN then (⟨0,l,⟨0,0,a,b⟩,ln0,BT.waste.plan⟩,true) else (evZ,false)
 | [l,x,y,a,b]=>if w=Xq then (⟨1,l,⟨x,y,a,b⟩,ln0,BT.waste.plan⟩,true) else (evZ,false)
 | _=>(evZ,false)
def Zk9:List (List UInt8)→Zn×Bool
 | [a,p]=>(⟨3,ZcK a,bx0,ln0,((Zgg p).getD .waste).plan⟩,(Zgg p).isSome)
 | _=>(evZ,false)
def lnE (k:Int) (r:List (List UInt8)):Zn×Bool:=match lnS r with
 | some n=>(⟨k,0,bx0,n,BT.waste.plan⟩,true)
 | none=>(⟨k,0,bx0,ln0,BT.waste.plan⟩,false)
def rdE (w:List UInt8) (r:List (List UInt8)):Zn×Bool:=
 if r=[] then (evZ,false) else if w=Yj then lnE 2 r else if w=Yk then lnE 4 r else if w=ZbT then Zk9 r
 else if w=QN∨w=Xq∨w=Xj then (match Yx r with
  | none=>(evZ,false)
  | some ns=>Vv w ns) else (evZ,false)
theorem Zp2:Zd Xs Ms 113 [] []=some (.own 0,[.row 1 (Zkq.map .str) true false]):=Zib
theorem ZGL {w:List UInt8} {k:Nat} (h:∀ j x,j<k→Zkq[j]?=some x→x≠w) (hk:k≤6):∀ j,j<k→∃ x,Zkq[j]?=some x∧(x==w)=false∧(x != w)=true:=by
 intro j hj;obtain⟨x,hx⟩:∃ x,Zkq[j]?=some x:=⟨_,Kv (by show j<6;omega)⟩
 have:=h j x hj hx;exact⟨x,hx,by simpa using this,by simpa using this⟩
theorem ev_ix (w:List UInt8):∃ k:Nat,k≤6∧(∀ j,j<k→∃ x,Zkq[j]?=some x∧(x==w)=false∧(x != w)=true)∧(k<6→Zkq[k]?=some w):=by
 have hk:Zkq.findIdx (fun x=>x==w)≤6:=List.findIdx_le_length;refine⟨Zkq.findIdx fun x=>x==w,hk,ZGL (fun j x hj hx=>?_) hk,fun h=>?_⟩
 ·have:=List.not_of_lt_findIdx hj;obtain⟨h1,h2⟩:=Kb.1 hx;rw[h2] at this;simpa using this
 ·have:=List.findIdx_getElem (w:=h);rw[Kv h];simpa using this
theorem ZvK (r:List (List UInt8)) (h:r≠[]):rdE QN r=match Yx r with
  | none=>(evZ,false)
  | some ns=>Vv QN ns:=by
 unfold rdE;rw[Kd h,Kd (by decide),Kd (by decide),Kd (by decide),Kg (.inl rfl)]
theorem Zy7 (r:List (List UInt8)) (h:r≠[]):rdE Xq r=match Yx r with
  | none=>(evZ,false)
  | some ns=>Vv Xq ns:=by
 unfold rdE;rw[Kd h,Kd (by decide),Kd (by decide),Kd (by decide),Kg (.inr (.inl rfl))]
theorem ZvL (r:List (List UInt8)) (h:r≠[]):rdE Xj r=match Yx r with
  | none=>(evZ,false)
  | some ns=>Vv Xj ns:=by
 unfold rdE;rw[Kd h,Kd (by decide),Kd (by decide),Kd (by decide),Kg (.inr (.inr rfl))]
theorem ZvM (r:List (List UInt8)) (h:r≠[]):rdE Yj r=lnE 2 r:=by
 unfold rdE;rw[Kd h,Kg rfl]
theorem ZCJ (r:List (List UInt8)) (h:r≠[]):rdE Yk r=lnE 4 r:=by
 unfold rdE;rw[Kd h,Kd (by decide),Kg rfl]
theorem ZCK (r:List (List UInt8)) (h:r≠[]):rdE ZbT r=Zk9 r:=by
 unfold rdE;rw[Kd h,Kd (by decide),Kd (by decide),Kg rfl]
theorem rdE_no (w:List UInt8) (r:List (List UInt8)) (h:∀ x∈Zkq,x≠w):rdE w r=(evZ,false):=by
 have h0:=h QN (by simp[Zkq]);have h1:=h Xq (by simp[Zkq]);have h2:=h Yj (by simp[Zkq]);have h3:=h ZbT (by simp[Zkq]);have h4:=h Yk (by simp[Zkq]);have h5:=h Xj (by simp[Zkq]);unfold rdE;rw[Kd (Ne.symm h2),Kd (Ne.symm h4),Kd (Ne.symm h3),Kd (show ¬(w=QN∨w=Xq∨w=Xj) from fun e=>e.elim (fun e=>h0 e.symm) fun e=>e.elim (fun e=>h1 e.symm) fun e=>h5 e.symm),ite_self]
theorem Zy8 {ns:List Int} (h:ns.length≠3):Vv QN ns=(evZ,false):=by
 unfold Vv;split
 ·exact Kd (by decide)
 ·exact absurd rfl h
 ·exact Kd (by decide)
 ·rfl
theorem ZBg {ns:List Int} (h:ns.length≠5):Vv Xq ns=(evZ,false):=by
 unfold Vv;split
 ·exact Kd (by decide)
 ·exact Kd (by decide)
 ·exact absurd rfl h
 ·rfl
theorem Zy9 {ns:List Int} (h:ns.length≠1):Vv Xj ns=(evZ,false):=by
 unfold Vv;split
 ·exact absurd rfl h
 ·exact Kd (by decide)
 ·exact Kd (by decide)
 ·rfl
theorem ZjQ:∀ {ws:List (List UInt8)} {ns:List Int},Yx ws=some ns→ns.length=ws.length
 | [],ns,h=>by cases h;rfl
 | w :: r,ns,h=>by
  simp only[Yx,KZ] at h;obtain⟨v,_,vs,h2,h3⟩:=h;cases h3;simp[ZjQ h2]
theorem Zrx (w:List UInt8) (r:List (List UInt8)) (hl:r.length≤1048576) (hw:∀ x∈r,x.length≤1048576) (eK eL eX eY eW eH am an:Int) (ao:Bool) (ap eC eo ea ep:Int) (et:Bool) (ek:List Ze) (ok:Bool) (hE:rdE w r=((Zn.mk eK eL (Box.mk eX eY eW eH) (Zc.mk (Pane.mk am an ao ap) eC) (Ze.mk eo ea ep et ek)),ok)):Zd Xs Ms 111 [.d (.sl (.str w :: r.map .str))] []=some (.tup [.agg [(.d (J eK)),(.d (J eL)),(.d (J eX)),(.d (J eY)),(.d (J eW)),(.d (J eH)),(.d (J am)),(.d (J an)),(.d (.bool ao)),(.d (J ap)),(.d (J eC)),(.d (J eo)),(.d (J ea)),(.d (J ep)),(.d (.bool et)),.own 0],(.d (.bool ok))],[.row 5 (ek.map Ze.enc) true false]):=by
 have e0:=Zp2;obtain⟨K,hK,aq,ar⟩:=ev_ix w;refine cE ?_;simp +contextual -implicitDefEqProofs (maxSteps:=10^7) only[go_sem,seval,ZfU];refine LO (α:=Nat) (fun _=>[]) (fun j=>[(0,.box [(.d (J j)),(.d (J 0)),(.d (J 0)),(.d (J 0)),(.d (J 0)),(.d (J 0)),(.d (J 0)),(.d (J 0)),(.d (.bool false)),(.d (J 0)),(.d (J 0)),(.d (J 0)),(.d (J 0)),(.d (J 0)),(.d (.bool false)),.own 2])]) (fun j=>j≤K) (fun j=>K-j) 0 (by omega) ?_;intro j hj ih;by_cases au:j<K
 ·obtain⟨x,hx,hq,av⟩:=aq j au;have ak:(j:Int)<6:=by omega
  have ag : j<6:=by omega
  have w1:=Zg (k:=j) (by omega);simp +contextual -implicitDefEqProofs only[go_sem,seval,e0,XW,ak,ag,hx,hq,av,w1];refine ih (j+1) _ (by omega) (by omega) ?_;simp +contextual -implicitDefEqProofs only[go_sem,seval]
 ·have aw:j=K:=by omega
  subst aw;clear ih;have ab:(w==w)=true:=by simp
  have aa : (w != w)=false:=by simp
  by_cases h6:j=6
  ·subst h6;rw[rdE_no w r fun x hx=>?_] at hE
   ·cases hE;simp +contextual -implicitDefEqProofs only[go_sem,seval,evZ]
   ·obtain⟨i,hi⟩:=List.mem_iff_getElem?.1 hx;obtain⟨ax,_⟩:=Kb.1 hi;obtain⟨y,hy,hq,_⟩:=aq i ax;rw[hi] at hy;cases hy;simpa using hq
  ·have hx:=ar (by omega);have ak:(j:Int)<6:=by omega
   have ag : j<6:=by omega
   have ay:¬(j:Int)=6:=by omega
   by_cases hr:r=[]
   ·subst hr;rw[show rdE w []=(evZ,false) from rfl] at hE;cases hE;simp only[Ks];simp +contextual -implicitDefEqProofs only[go_sem,seval,e0,XW,ak,ag,hx,ab,aa,ay]
   ·have h2:1≤r.length:=by
     cases r with
     | nil=>exact absurd rfl hr
     | cons _ _=>simp
    have ad:¬((r.length+1:Nat):Int)<2:=by omega
    have ae:(1:Int)≤((r.length+1:Nat):Int):=by omega
    have hc:j=0∨j=1∨j=2∨j=3∨j=4∨j=5:=by omega
    have e1:=Zrw r (by omega) hw;have e2:=Zuq r hw;have hu:∀ x:List UInt8,uni 1 (.str x :: r.map D.str):=fun x y hy=>by
     rcases Ke.1 hy with rfl | hy
     ·rfl
     ·obtain⟨z,_,rfl⟩:=Li.1 hy;rfl
    have af:List.take r.length r=r:=KN;rcases hc with rfl | rfl | rfl | rfl | rfl | rfl
    ·obtain rfl:QN=w:=Option.some.inj hx;rw[ZvK r hr] at hE;cases hn:Yx r with
     | none=>
      rw[hn] at hE e1;simp only[rnV] at e1;cases hE;simp +contextual -implicitDefEqProofs only[go_sem,seval,e0,XW,hx,ab,aa,ad,ae,hu,af,e1]
     | some ns=>
      have aj:=ZjQ hn;rw[hn] at hE e1;replace hE:Vv QN ns=_:=hE;simp only[rnV] at e1;by_cases h3:ns.length=3
      ·obtain⟨l,a,b,rfl⟩:∃ l a b,ns=[l,a,b]:=by
        match ns,h3 with
        | [l,a,b],_=>exact⟨l,a,b,rfl⟩
       rw[show Vv QN [l,a,b]=(⟨0,l,⟨0,0,a,b⟩,ln0,BT.waste.plan⟩,true) from by simp[Vv]] at hE;cases hE;simp only[Kk,Ks,X3] at e1;simp +contextual -implicitDefEqProofs only[go_sem,seval,e0,XW,hx,ab,aa,ad,ae,hu,af,e1]
       all_goals rfl
      ·rw[show Vv QN ns=_ from Zy8 h3] at hE;cases hE;obtain⟨v,vs,rfl⟩:∃ v vs,ns=v :: vs:=by
        cases ns with
        | nil=>simp at aj;omega
        | cons v vs=>exact⟨v,vs,rfl⟩
       have ah : ¬((vs.length+1:Nat):Int)=3:=by simp only[Kl] at h3;omega
       have hz:0<vs.length+1:=by omega
       have ai:¬vs.length+1=3:=by simp only[Kl] at h3;omega
       simp +contextual -implicitDefEqProofs only[go_sem,seval,e0,XW,hx,ab,aa,ad,ae,hu,af,e1,ah,ai,hz,Kk,X3,Kl]
    ·obtain rfl:Xq=w:=Option.some.inj hx;rw[Zy7 r hr] at hE;cases hn:Yx r with
     | none=>
      rw[hn] at hE e1;simp only[rnV] at e1;cases hE;simp +contextual -implicitDefEqProofs only[go_sem,seval,e0,XW,hx,ab,aa,ad,ae,hu,af,e1]
     | some ns=>
      have aj:=ZjQ hn;rw[hn] at hE e1;replace hE:Vv Xq ns=_:=hE;simp only[rnV] at e1;by_cases h3:ns.length=5
      ·obtain⟨l,a,b,c,d,rfl⟩:∃ l a b c d,ns=[l,a,b,c,d]:=by
        match ns,h3 with
        | [l,a,b,c,d],_=>exact⟨l,a,b,c,d,rfl⟩
       rw[show Vv Xq [l,a,b,c,d]=(⟨1,l,⟨a,b,c,d⟩,ln0,BT.waste.plan⟩,true) from by simp[Vv]] at hE;cases hE;simp only[Kk,Ks,X3] at e1;simp +contextual -implicitDefEqProofs only[go_sem,seval,e0,XW,hx,ab,aa,ad,ae,hu,af,e1]
       all_goals rfl
      ·rw[show Vv Xq ns=_ from ZBg h3] at hE;cases hE;obtain⟨v,vs,rfl⟩:∃ v vs,ns=v :: vs:=by
        cases ns with
        | nil=>simp at aj;omega
        | cons v vs=>exact⟨v,vs,rfl⟩
       have ah : ¬((vs.length+1:Nat):Int)=5:=by simp only[Kl] at h3;omega
       have hz:0<vs.length+1:=by omega
       have ai:¬vs.length+1=5:=by simp only[Kl] at h3;omega
       simp +contextual -implicitDefEqProofs only[go_sem,seval,e0,XW,hx,ab,aa,ad,ae,hu,af,e1,ah,ai,hz,Kk,X3,Kl]
    ·obtain rfl:Yj=w:=Option.some.inj hx;rw[ZvM r hr] at hE;unfold lnE at hE;cases hn:lnS r with
     | none=>
      rw[hn] at hE e2;simp only[rlV] at e2;cases hE;simp +contextual -implicitDefEqProofs only[go_sem,seval,e0,XW,hx,ab,aa,ad,ae,hu,af,e2]
     | some n=>
      obtain⟨⟨nW,nH,nT,nK⟩,nC⟩:=n;rw[hn] at hE e2;simp only[rlV,Zc.enc] at e2;cases hE;simp +contextual -implicitDefEqProofs only[go_sem,seval,e0,XW,hx,ab,aa,ad,ae,hu,af,e2]
      all_goals rfl
    ·obtain rfl:ZbT=w:=Option.some.inj hx;rw[ZCK r hr] at hE;obtain⟨a,r,rfl⟩:∃ a r',r=a :: r':=by
      cases r with
      | nil=>exact absurd rfl hr
      | cons a r=>exact⟨a,r,rfl⟩
     have e3:=Yc a (hw a (by simp));by_cases h3:r.length=1
     ·obtain⟨b,rfl⟩:∃ b,r=[b]:=by
       match r,h3 with
       | [b],_=>exact⟨b,rfl⟩
      obtain⟨o,a',q,t,ks,e4,h4⟩:=Zrn b (hw b (by simp));simp only[Zk9,← h4] at hE;cases hE;simp only[Kk,Ks];simp +contextual -implicitDefEqProofs only[go_sem,seval,e0,XW,hx,ab,aa,e3,e4]
      all_goals rfl
     ·rw[show Zk9 (a :: r)=(evZ,false) from ?_] at hE
      ·cases hE;have ah : ¬((r.length+1+1:Nat):Int)=3:=by omega
       have ai:¬r.length+1+1=3:=by omega
       have al : ¬((r.length+1+1:Nat):Int)<2:=by omega
       simp only[Kk];simp +contextual -implicitDefEqProofs only[go_sem,seval,e0,XW,hx,ab,aa,al,e3,ah,ai,Kl]
      ·unfold Zk9;split
       ·rename_i az;cases az;exact absurd rfl h3
       ·rfl
    ·obtain rfl:Yk=w:=Option.some.inj hx;rw[ZCJ r hr] at hE;unfold lnE at hE;cases hn:lnS r with
     | none=>
      rw[hn] at hE e2;simp only[rlV] at e2;cases hE;simp +contextual -implicitDefEqProofs only[go_sem,seval,e0,XW,hx,ab,aa,ad,ae,hu,af,e2]
     | some n=>
      obtain⟨⟨nW,nH,nT,nK⟩,nC⟩:=n;rw[hn] at hE e2;simp only[rlV,Zc.enc] at e2;cases hE;simp +contextual -implicitDefEqProofs only[go_sem,seval,e0,XW,hx,ab,aa,ad,ae,hu,af,e2]
      all_goals rfl
    ·obtain rfl:Xj=w:=Option.some.inj hx;rw[ZvL r hr] at hE;cases hn:Yx r with
     | none=>
      rw[hn] at hE e1;simp only[rnV] at e1;cases hE;simp +contextual -implicitDefEqProofs only[go_sem,seval,e0,XW,hx,ab,aa,ad,ae,hu,af,e1]
     | some ns=>
      have aj:=ZjQ hn;rw[hn] at hE e1;replace hE:Vv Xj ns=_:=hE;simp only[rnV] at e1;by_cases h3:ns.length=1
      ·obtain⟨l,rfl⟩:∃ l,ns=[l]:=by
        match ns,h3 with
        | [l],_=>exact⟨l,rfl⟩
       rw[show Vv Xj [l]=(⟨5,l,bx0,ln0,BT.waste.plan⟩,true) from by simp[Vv]] at hE;cases hE;simp only[Kk,Ks,X3] at e1;simp +contextual -implicitDefEqProofs only[go_sem,seval,e0,XW,hx,ab,aa,ad,ae,hu,af,e1]
       all_goals rfl
      ·rw[show Vv Xj ns=_ from Zy9 h3] at hE;cases hE;obtain⟨v,vs,rfl⟩:∃ v vs,ns=v :: vs:=by
        cases ns with
        | nil=>simp at aj;omega
        | cons v vs=>exact⟨v,vs,rfl⟩
       have ah : ¬((vs.length+1:Nat):Int)=1:=by simp only[Kl] at h3;omega
       have hz:0<vs.length+1:=by omega
       have ai:¬vs.length+1=1:=by simp only[Kl] at h3;omega
       simp +contextual -implicitDefEqProofs only[go_sem,seval,e0,XW,hx,ab,aa,ad,ae,hu,af,e1,ah,ai,hz,Kk,X3,Kl]
theorem ZFe {w:List UInt8} {r:List (List UInt8)} {e:Zn} {v:Ev} (h:rdE w r=(e,true)) (hv:Zay e=some v):v.ev=e:=by
 have aa:∀ n∈Yy e,six n:=Classical.byContradiction fun h=>by rw[Zix h] at hv;cases hv
 obtain⟨b,hb,ab⟩:∃ b,QU e.plan=some b∧Zl8 b:=Classical.byContradiction fun h=>by
  rw[ZdQ (e:=e) fun b hb hp=>h ⟨b,hb,hp⟩] at hv;cases hv
 rw[YO aa hb ab] at hv;simp only[Yy,Ke,KL,or_false,forall_eq_or_imp,forall_eq] at aa;obtain⟨n1,n2,n3,n4,n5,n6,n7,n8,n9,ad⟩:=aa;simp only[six] at n2 n3 n4 n5 n6;unfold rdE at h;split at h
 ·cases h
 split at h
 ·unfold lnE at h;split at h
  ·cases h;simp[Yz] at hv;rw[← hv];rfl
  ·cases h
 split at h
 ·unfold lnE at h;split at h
  ·cases h;simp[Yz] at hv;rw[← hv];rfl
  ·cases h
 split at h
 ·unfold Zk9 at h;split at h
  ·rename_i p;obtain⟨rfl,hs⟩:=Prod.mk.inj h;simp only[XI,Option.some.injEq] at hb;subst hb;simp[Yz] at hv;simp only at n2;rw[← hv];simp only[Ev.ev,KO n2.1]
  ·cases h
 split at h
 ·split at h
  ·cases h
  ·unfold Vv at h;split at h
   ·split at h
    ·cases h;simp[Yz] at hv;simp only at n2;rw[← hv];simp only[Ev.ev,KO n2.1]
    ·cases h
   ·split at h
    ·cases h;simp[Yz] at hv;simp only at n2 n5 n6;rw[← hv];simp only[Ev.ev,KO n2.1,KO n5.1,KO n6.1]
    ·cases h
   ·split at h
    ·cases h;simp[Yz] at hv;simp only at n2 n3 n4 n5 n6;rw[← hv];simp only[Ev.ev,KO n2.1,KO n3.1,KO n4.1,KO n5.1,KO n6.1]
    ·cases h
   ·cases h
 ·cases h
theorem ZnJ {ns:List Nat} (h:∀ n∈ns,n≤999999):Yx (ns.map num)=some (ns.map fun n:Nat=>(n:Int)):=by
 rw[Zk8,ZdO h];rfl
theorem ZFf {b:BT} (h:Zl8 b):Zgg (shw b)=some b:=ZjO.2 ⟨h.2.2,rfl,h.1,h.2.1⟩
theorem ZDM {v:Ev} (h:v.ok):∃ w r,v.words=w :: r∧rdE w r=(v.ev,true):=by
 cases v with
 | sheet l a b=>
  obtain⟨h1,h2,h3⟩:=h;refine⟨_,_,rfl,?_⟩;rw[ZvK _ (by simp),show [num l,num a,num b]=[l,a,b].map num from rfl,ZnJ (by simp[h1,h2,h3])];simp[Vv,Ev.ev]
 | flaw l x y a b=>
  obtain⟨h1,h2,h3,h4,h5⟩:=h;refine⟨_,_,rfl,?_⟩;rw[Zy7 _ (by simp),show [num l,num x,num y,num a,num b]=[l,x,y,a,b].map num from rfl,ZnJ (by simp[h1,h2,h3,h4,h5])];simp[Vv,Ev.ev]
 | order n=>
  refine⟨_,_,rfl,?_⟩;rw[ZvM _ (by simp[XE])];unfold lnE;rw[Zy0 (ZgT h)];rfl
 | cut l b=>
  obtain⟨h1,h2⟩:=h;refine⟨_,_,rfl,?_⟩;rw[ZCK _ (by simp)];simp only[Zk9,ZFf h2,ZbS (ZdK h1)];rfl
 | brk n=>
  refine⟨_,_,rfl,?_⟩;rw[ZCJ _ (by simp[XE])];unfold lnE;rw[Zy0 (ZgT h)];rfl
 | scrap l=>
  have h1:l≤999999:=h;refine⟨_,_,rfl,?_⟩;rw[ZvL _ (by simp),show [num l]=[l].map num from rfl,ZnJ (by simp[h1])];simp[Vv,Ev.ev]
theorem Zza {s w:List UInt8} {r:List (List UInt8)} {v:Ev} (hs:ZL 32 s=w :: r) (h:Zik s=some v):rdE w r=(v.ev,true):=by
 obtain⟨rfl,ho⟩:=ZjP.1 h;obtain⟨w',r',h1,h2⟩:=ZDM ho;rw[Ev.text,Zk4 (Zy1 v) (ZCI v),h1] at hs;obtain⟨rfl,rfl⟩:=List.cons.inj hs;exact h2
theorem Zp3 (s:List UInt8) (hs:s.length≤1048576):PeR (Zd Xs Ms 58 [.d (.str s)] []) (Zik s):=by
 have e1:=Zl7 s 32 32 rfl hs;obtain⟨w,r,ad⟩:∃ w r,ZL 32 s=w :: r:=by
  cases h:ZL 32 s with
  | nil=>exact absurd h (Ub 32 s)
  | cons w r=>exact⟨w,r,rfl⟩
 have af:=Zk6 32 s;have ag:=Zgk 32 s;have ai:s.count 32≤s.length:=Kar;rw[ad] at e1 af ag;simp only[Kl] at ag;simp only[Kk] at e1;obtain⟨⟨⟨K,L,⟨X,Y,W,H⟩,⟨⟨pW,pH,pT,pK⟩,C⟩,⟨o,a,q,t,ks⟩⟩,ok⟩,hE⟩:∃ x,rdE w r=x:=⟨_,rfl⟩
 have e2:=Zrx w r (by omega) (fun x hx=>by have:=af x (by simp[hx]);omega) K L X Y W H pW pH pT pK C o a q t ks ok hE;have aa:(∀ v,Zik s=some v→False)→Zik s=none:=fun h=>by
  cases hp:Zik s with
  | none=>rfl
  | some v=>exact absurd (h v hp) id
 cases ok with
 | false=>
  rw[aa fun v h=>by rw[Zza ad h] at hE;exact absurd (Prod.mk.inj hE).2 (by simp)];refine ZBf ?_;refine cE ?_;simp +contextual -implicitDefEqProofs (maxSteps:=10^7) only[go_sem,seval,Vn,e1,e2]
 | true=>
  have e3:=Zkp K L X Y W H pW pH pT pK C o a q t ks;have ab:∀ v,Zik s=some v→Zay ⟨K,L,⟨X,Y,W,H⟩,⟨⟨pW,pH,pT,pK⟩,C⟩,.mk o a q t ks⟩=some v∧v.text=s:=fun v h=>by
   have h1:=Zza ad h;rw[hE] at h1;obtain⟨h2,h3⟩:=ZjP.1 h;rw[(Prod.mk.inj h1).1];exact⟨ZGI h3,h2.symm⟩
  cases hv:Zay ⟨K,L,⟨X,Y,W,H⟩,⟨⟨pW,pH,pT,pK⟩,C⟩,.mk o a q t ks⟩ with
  | none=>
   rw[aa fun v h=>by rw[(ab v h).1] at hv;cases hv];rw[hv,Kw] at e3;refine ZBf ?_;refine cE ?_;simp +contextual -implicitDefEqProofs (maxSteps:=10^7) only[go_sem,seval,Vn,e1,e2,e3]
  | some v=>
   have e4:=Ziz K L X Y W H pW pH pT pK C o a q t ks v hv;rw[hv,K4] at e3;by_cases ht:v.text=s
   ·have ah:=(ZGJ hv).1;rw[ZjP.2 ⟨ht.symm,ah⟩];rw[ht] at e4;have ae:(s != s)=false:=by simp
    refine⟨K,L,X,Y,W,H,pW,pH,pT,pK,C,o,a,q,t,ks,?_,(ZFe hE hv).symm⟩;refine cE ?_;simp +contextual -implicitDefEqProofs (maxSteps:=10^7) only[go_sem,seval,Vn,e1,e2,e3,e4,ae]
    all_goals rfl
   ·have ae:(v.text==s)=false:=by simp[ht]
    rw[aa fun v' h=>ht (by obtain⟨h1,h2⟩:=ab v' h;rw[hv] at h1;cases h1;exact h2)];refine ZBf ?_;refine cE ?_;simp +contextual -implicitDefEqProofs (maxSteps:=10^7) only[go_sem,seval,Vn,e1,e2,e3,e4,ae]
end Go.Proofs.YtfnegoimdljanaaGreatDoor
