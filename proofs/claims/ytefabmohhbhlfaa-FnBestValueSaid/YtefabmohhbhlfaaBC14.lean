/- Own text. -/
import Derived.Test.YtefabmohhbhlfaaBCode
import Derived.Test.YtefabmohhbhlfaaAbsParts
import Derived.Test.YtefabmohhbhlfaaBC1
import Derived.Test.YtefabmohhbhlfaaBC12
import Derived.Test.YtefabmohhbhlfaaAbsOkD
namespace Go.Proofs.Ytefabmohhbhlfaa
open Go Go.Abs Go.Abs.E Go.Abs.L
open Nat (reduceMul reduceSub reduceLeDiff reduceEqDiff)
open Int (reduceLE reduceEq reduceToNat reduceNeg)
set_option linter.unusedSimpArgs false
set_option linter.unusedVariables false
set_option maxRecDepth 20000
set_option maxHeartbeats 4000000
def goL (ps:List Pane) (W H:Int):List Int→List (List Int)→Int→Int→List Int→List (List (List Int))
 | row,rows,_,_,[]=>[rows++[row]]
 | row,rows,r,a,i :: l=>if wI ps i≤r then goL ps W H (row++[i]) rows (r-wI ps i) a l
  else if hI ps i≤a then goL ps W H [i] (rows++[row]) (W-wI ps i) (a-hI ps i) l
  else (rows++[row]) :: goL ps W H [i] [] (W-wI ps i) (H-hI ps i) l
def shL (ps:List Pane) (W H:Int):List Int→List (List (List Int))
 | []=>[]
 | i :: l=>goL ps W H [i] [] (W-wI ps i) (H-hI ps i) l
def Zg6 (row:List Int):D:=.agg [.sl (row.map Qs)]
def Zdn (rows:List (List Int)):D:=.agg [.sl (rows.map Zg6)]
def Wm (k:ZM):Prop:=VW k∧∀ x∈k.Panes,x.Turns=false∧x.W≤k.W∧x.H≤k.H
instance (k:ZM):Decidable (Wm k):=by unfold Wm;infer_instance
theorem Zg7 {ps:List Pane} (h:VPs ps):okP ps:=fun x hx=>by
 have:=h x hx;simp only[VP] at this;omega
theorem Zg8 (kW kH:Int) (kP:List Pane):Zu Xs Ms Y0 [(.d (.agg [J kW,J kH,.sl (kP.map Pane.enc)]))] []=some ((.d (.bool (decide (Wm (ZM.mk kW kH kP))))),[]):=by
 have e1:=Xx kW kH kP;by_cases hv:VW (ZM.mk kW kH kP)
 ·rw[K2 hv] at e1;have hl:kP.length≤24:=hv.2.2.2.2.1;refine cE ?_;simp +contextual -implicitDefEqProofs (maxSteps:=10^7) only[go_sem,seval,↓gZ,Wv,e1];refine LO (α:=Nat) (fun i=>[(11,.d (J (i:Int)))]) (fun _=>[]) (fun i=>i≤kP.length∧∀ x∈kP.take i,x.Turns=false∧x.W≤kW∧x.H≤kH) (fun i=>kP.length-i) 0 ⟨by omega,by simp⟩ ?_;intro i ⟨hi,hb⟩ ih;by_cases ab:i<kP.length
  ·obtain⟨⟨xW,xH,xT,xK⟩,hx⟩:=Z1 ab;have hw:=ZE (k:=i) (by omega);have ad:=Kg hx;by_cases c1:xT=true
   ·have aa:¬Wm (ZM.mk kW kH kP):=fun h=>by have:=(h.2 _ ad).1;simp[c1] at this
    rw[Kv aa];simp +contextual -implicitDefEqProofs (maxSteps:=10^7) only[go_sem,seval,↓gZ,hx,ab,c1]
   ·rw[Lz] at c1;by_cases c2:kW<xW
    ·have aa:¬Wm (ZM.mk kW kH kP):=fun h=>by have:=(h.2 _ ad).2.1;simp only at this;omega
     rw[Kv aa];simp +contextual -implicitDefEqProofs (maxSteps:=10^7) only[go_sem,seval,↓gZ,hx,ab,c1,c2]
    ·by_cases c3:kH<xH
     ·have aa:¬Wm (ZM.mk kW kH kP):=fun h=>by have:=(h.2 _ ad).2.2;simp only at this;omega
      rw[Kv aa];simp +contextual -implicitDefEqProofs (maxSteps:=10^7) only[go_sem,seval,↓gZ,hx,ab,c1,c2,c3]
     ·simp +contextual -implicitDefEqProofs (maxSteps:=10^7) only[go_sem,seval,↓gZ,hx,ab,c1,c2,c3,hw];refine ih (i+1) _ ⟨by omega,fun y hy=>?_⟩ (by omega) ?_
      ·rw[Lq,hx] at hy;simp only[L9,Kc,KC] at hy;rcases hy with hy | rfl
       ·exact hb y hy
       ·exact⟨c1,by simp only;omega,by simp only;omega⟩
      ·simp +contextual -implicitDefEqProofs (maxSteps:=10^7) only[go_sem,seval,↓gZ]
  ·have:i=kP.length:=by omega
   subst this;rw[KZ] at hb;have ae:Wm (ZM.mk kW kH kP):=⟨hv,hb⟩
   rw[K2 ae];simp +contextual -implicitDefEqProofs (maxSteps:=10^7) only[go_sem,seval,↓gZ]
 ·have aa:¬Wm (ZM.mk kW kH kP):=fun h=>hv h.1;rw[Kv hv] at e1;rw[Kv aa];refine cE ?_;simp +contextual -implicitDefEqProofs (maxSteps:=10^7) only[go_sem,seval,↓gZ,Wv,e1]
def shInv (ps:List Pane) (W H:Int) (O:List Int) (s:Nat×List (List (List Int))×Int×Int):Prop:=s.1≤O.length ∧
 (s.1=0∧s.2.1=[]∧s.2.2.1=0∧s.2.2.2=0∨∃ done rows row,s.2.1=done++[rows++[row]]∧done++goL ps W H row rows s.2.2.1 s.2.2.2 (O.drop s.1)=shL ps W H O∧(done.length≤s.1∧rows.length≤s.1∧row.length≤s.1)∧0≤s.2.2.1∧s.2.2.1≤200∧0≤s.2.2.2∧s.2.2.2≤200)
theorem Zka (kW kH:Int) (kP:List Pane) (hp:Wm (ZM.mk kW kH kP)) (hl:kP.length≤19):Zu Xs Ms Vp [(.d (.agg [J kW,J kH,.sl (kP.map Pane.enc)]))] []=some (.own 0,[.row 1 ((shL kP kW kH (XB (hI kP) kP.length)).map Zdn) true false]):=by
 have ho:okP kP:=Zg7 hp.1.2.2.2.2.2;have e1:=Zj9 kW kH kP kP.length (Kf _) hl ho;have ah:=Zby (hI kP) kP.length;have ap:∀ x∈XB (hI kP) kP.length,∃ m:Nat,x=(m:Int)∧m<kP.length:=fun x hx=>Zbz _ hx;generalize XB (hI kP) kP.length=O at *;have hW:1≤kW∧kW≤200∧1≤kH∧kH≤200:=⟨hp.1.1,hp.1.2.1,hp.1.2.2.1,hp.1.2.2.2.1⟩
 refine cE ?_;simp +contextual -implicitDefEqProofs (maxSteps:=10^7) only[go_sem,seval,↓gZ,Za7,e1,ah];refine LO (α:=Nat×List (List (List Int))×Int×Int) (fun s=>[(17,.d (J (s.1:Int))),(5,.d (J s.2.2.2)),(4,.d (J s.2.2.1))]) (fun s=>[(1,.tree 1 1 (s.2.1.map Zdn) none)]) (shInv kP kW kH O) (fun s=>O.length-s.1) (0,[],0,0) ⟨by omega,.inl ⟨rfl,rfl,rfl,rfl⟩⟩ ?_;intro⟨p,S,r,a⟩ ⟨hi,hb⟩ ih;simp only at hi hb;by_cases ad:p<O.length
 ·obtain⟨x,hx⟩:=Z1 ad;obtain⟨m,rfl,hm⟩:=ap x (Kg hx);obtain⟨z,hz⟩:=Z1 hm;have aq:=ho z (Kg hz);have ar:=hp.2 z (Kg hz);have ae:=ZpC hz;have af:=Zje hz;have ag:=ZE (k:=p) (by omega);have aa : p<kP.length:=by omega
  have hd:O.drop p=(m:Int) :: O.drop (p+1):=by
   obtain⟨h1,h2⟩:=Kd.1 hx;rw[LF h1,h2]
  obtain⟨zW,zH,zT,zK⟩:=z;simp only at aq ar ae af;have w1:=wi (kW-zW) (by omega) (by omega);have w2:=wi (kH-zH) (by omega) (by omega);have ai:(p:Int)<(kP.length:Int):=by omega
  rcases hb with ⟨rfl,rfl,rfl,rfl⟩ | ⟨done,rows,row,rfl,hg,hc,aw,ax,ay,az⟩
  ·have c1:¬zW≤0:=by omega
   have c2:¬zH≤0:=by omega
   have au:(0:Int)<(kP.length:Int):=by omega
   simp +contextual -implicitDefEqProofs (maxSteps:=10^7) only[go_sem,seval,↓gZ,hx,ad,aa,hz,hm,c1,c2,w1,w2,ag,au];refine ih (1,[[[(m:Int)]]],kW-zW,kH-zH) _ ⟨by simp only;omega,.inr ⟨[],[],[(m:Int)],rfl,?_,by simp,by simp only;omega,by simp only;omega,by simp only;omega,by simp only;omega⟩⟩ (by simp only;omega) ?_
   ·simp only[Lr];rw[List.drop_zero] at hd
    conv=>rhs;rw[hd]
    rw[shL,ae,af]
   ·simp +contextual -implicitDefEqProofs (maxSteps:=10^7) only[go_sem,seval,↓gZ]<;>exact rfl
  ·obtain⟨X,hX⟩:∃ X,(done++[rows++[row]]).map Zdn=X:=⟨_,rfl⟩
   obtain⟨Y,hY⟩:∃ Y,(rows++[row]).map Zg6=Y:=⟨_,rfl⟩
   obtain⟨R,hR⟩:∃ R,row.map Qs=R:=⟨_,rfl⟩
   have aj:X.length=done.length+1:=by rw[← hX];simp
   have ak:X[done.length]?=some (.agg [.sl Y]):=by rw[← hX,← hY];simp[Zdn]
   have al:Y.length=rows.length+1:=by rw[← hY];simp
   have am:Y[rows.length]?=some (.agg [.sl R]):=by rw[← hY,← hR];simp[Zg6]
   have an:R.length=row.length:=by rw[← hR];simp
   have ao:Vb D.flat R=true:=by
    rw[← hR];have hk:∀ l:List Int,Vb D.flat (l.map Qs)=true:=fun l=>by
     induction l with
     | nil=>rfl
     | cons a l ih=>exact ih
    exact hk _
   have w3:IntKind.i64.wrap (((done.length+1:Nat):Int)-1)=(done.length:Int):=by rw[Xt (by omega) (by omega)];omega
   have w4:=wi ((rows.length:Nat):Int) (by omega) (by omega);have n4:((rows.length+1:Nat):Int)-1=(rows.length:Int):=by omega
   have gX:∀ A:D,(X.set done.length A)[done.length]?=some A:=fun A=>by rw[K4,Kt rfl,Kt (by omega)]
   have gY:∀ A:D,(Y.set rows.length A)[rows.length]?=some A:=fun A=>by rw[K4,Kt rfl,Kt (by omega)]
   have g1:done.length<done.length+1:=by omega
   have g2:rows.length<rows.length+1:=by omega
   have ab:Vb D.flat (R++[D.int .i64 (m:Int)])=true:=by
    rw[← hR];have hk:∀ l:List Int,Vb D.flat (l.map Qs++[D.int .i64 (m:Int)])=true:=fun l=>by
     induction l with
     | nil=>rfl
     | cons a l ih=>exact ih
    exact hk _
   have g3:(row.length+1)*8≤140737488355328∧row.length≤140737488355327:=by omega
   by_cases c1:zW≤r
   ·have w5:=wi (r-zW) (by omega) (by omega);simp +contextual -implicitDefEqProofs (maxSteps:=10^7) only[go_sem,seval,↓gZ,hx,ad,aa,ai,hz,hm,c1,hX,aj,ak,al,am,an,ao,ab,w3,w4,n4,gX,gY,g1,g2,g3,w5,ag,LH,List.set_set,Lg];have hN:X.set done.length (D.agg [D.sl (Y.set rows.length (D.agg [D.sl (R++[D.int .i64 (m:Int)])]))])=(done++[rows++[row++[(m:Int)]]]).map Zdn:=by
     rw[← hX,← hY,← hR];simp[Zdn,Zg6,Qs]
    refine ih (p+1,done++[rows++[row++[(m:Int)]]],r-zW,a) _ ⟨by simp only;omega,.inr ⟨done,rows,row++[(m:Int)],rfl,?_,by simp only[Ki,Kk,KM];omega,by simp only;omega,by simp only;omega,by simp only;omega,by simp only;omega⟩⟩ (by simp only;omega) ?_
    ·rw[hd,goL,ae,Kt c1] at hg;exact hg
    ·simp +contextual -implicitDefEqProofs (maxSteps:=10^7) only[go_sem,seval,↓gZ,hN]<;>exact rfl
   ·by_cases c2:zH≤a
    ·have w6:=wi (a-zH) (by omega) (by omega);have g6:rows.length≤140737488355326:=by omega
     have g4:(rows.length+1+1)*24≤140737488355328∧rows.length+1≤140737488355327:=by omega
     simp +contextual -implicitDefEqProofs (maxSteps:=10^7) only[go_sem,seval,↓gZ,hx,ad,aa,ai,hz,hm,c1,c2,hX,aj,ak,al,am,an,ao,ab,w1,w3,w4,n4,gX,gY,g1,g2,g3,g4,g6,w6,ag,LH,List.set_set,Lg];have hN:X.set done.length (D.agg [D.sl (Y++[D.agg [D.sl [D.int .i64 (m:Int)]]])])=(done++[rows++[row]++[[(m:Int)]]]).map Zdn:=by
      rw[← hX,← hY];simp[Zdn,Zg6,Qs]
     refine ih (p+1,done++[rows++[row]++[[(m:Int)]]],kW-zW,a-zH) _ ⟨by simp only;omega,.inr ⟨done,rows++[row],[(m:Int)],rfl,?_,by simp only[Ki,Kk,KM];omega,by simp only;omega,by simp only;omega,by simp only;omega,by simp only;omega⟩⟩ (by simp only;omega) ?_
     ·rw[hd,goL,ae,Kp c1,af,Kt c2] at hg;exact hg
     ·simp +contextual -implicitDefEqProofs (maxSteps:=10^7) only[go_sem,seval,↓gZ,hN]<;>exact rfl
    ·have g7:done.length≤140737488355326:=by omega
     have g5:(done.length+1+1)*24≤140737488355328∧done.length+1≤140737488355327:=by omega
     simp +contextual -implicitDefEqProofs (maxSteps:=10^7) only[go_sem,seval,↓gZ,hx,ad,aa,ai,hz,hm,c1,c2,hX,aj,ak,al,am,an,ao,ab,w1,w2,w3,w4,n4,gX,gY,g1,g2,g3,g5,g7,ag,LH,List.set_set,Lg];have hN:X++[D.agg [D.sl [D.agg [D.sl [D.int .i64 (m:Int)]]]]]=(done++[rows++[row]]++[[[(m:Int)]]]).map Zdn:=by
      rw[← hX];simp[Zdn,Zg6,Qs]
     refine ih (p+1,done++[rows++[row]]++[[[(m:Int)]]],kW-zW,kH-zH) _ ⟨by simp only;omega,.inr ⟨done++[rows++[row]],[],[(m:Int)],rfl,?_,by simp only[Ki,Kk,KM];omega,by simp only;omega,by simp only;omega,by simp only;omega,by simp only;omega⟩⟩ (by simp only;omega) ?_
     ·rw[hd,goL,ae,Kp c1,af,Kp c2] at hg;simpa using hg
     ·simp +contextual -implicitDefEqProofs (maxSteps:=10^7) only[go_sem,seval,↓gZ,hN]<;>exact rfl
 ·have av:p=kP.length:=by omega
  subst av;have hS:S=shL kP kW kH O:=by
   rcases hb with ⟨h0,rfl,_,_⟩ | ⟨done,rows,row,rfl,hg,_⟩
   ·rw[← ah,List.length_eq_zero_iff] at h0;subst h0;rfl
   ·rw[← ah,List.drop_length,goL] at hg;exact hg
  simp +contextual -implicitDefEqProofs (maxSteps:=10^7) only[go_sem,seval,↓gZ,hS]
end Go.Proofs.Ytefabmohhbhlfaa
namespace Go.Proofs.Ytefabmohhbhlfaa
open Go Go.Abs Go.Abs.E Go.Abs.L
open Nat (reduceMul reduceSub reduceLeDiff reduceEqDiff)
open Int (reduceLE reduceEq reduceToNat reduceNeg)
set_option linter.unusedSimpArgs false
set_option linter.unusedVariables false
set_option maxRecDepth 20000
set_option maxHeartbeats 4000000
def oneB (ps:List Pane) (i:Int) (h:Int):BT:=if hI ps i<h then .cut false (hI ps i) (.pane i false) .waste else .pane i false
def rowB (ps:List Pane):List Int→Int→Int→BT
 | [],_,_=>.waste
 | i :: r,w,h=>if wI ps i=w then oneB ps i h else .cut true (wI ps i) (oneB ps i h) (rowB ps r (w-wI ps i) h)
def hd0 (ps:List Pane):List Int→Int
 | []=>0
 | i :: _=>hI ps i
def Zco (ps:List Pane) (W:Int):List (List Int)→Int→BT
 | [],_=>.waste
 | row :: rs,h=>if hd0 ps row=h then rowB ps row W (hd0 ps row) else .cut false (hd0 ps row) (rowB ps row W (hd0 ps row)) (Zco ps W rs (h-hd0 ps row))
def WN (ps:List Pane):List Int→Int→Prop
 | [],w=>0≤w
 | i :: r,w=>(∃ m:Nat,i=(m:Int)∧m<ps.length)∧wI ps i≤w∧WN ps r (w-wI ps i)
def VS (ps:List Pane) (W:Int):List (List Int)→Int→Prop
 | [],h=>0≤h
 | row :: rs,h=>row≠[]∧WN ps row W∧hd0 ps row≤h∧VS ps W rs (h-hd0 ps row)
theorem Zaf (W H:Int) (ps:List Pane) (ho:okP ps):∀ (row:List Int) (w h:Int),row≠[]→WN ps row w→w≤200→0≤h→h≤200→∃ o a q t ks,(rowB ps row w h).plan=.mk o a q t ks ∧
  Zu Xs Ms Vr [.d (.agg [J W,J H,.sl (ps.map Pane.enc)]),.d (.sl (row.map Qs)),(.d (J w)),(.d (J h))] []=some (.agg [(.d (J o)),(.d (J a)),(.d (J q)),(.d (.bool t)),.own 0],[.row 5 (ks.map Zs.enc) true false])
 | [],w,h,hn,_,_,_,_=>absurd rfl hn
 | i :: r,w,h,_,hf,hw,h0,h1=>by
  obtain⟨⟨m,rfl,hm⟩,ad,aa⟩:=hf;obtain⟨z,hz⟩:=Z1 hm;have af:=ho z (Kg hz);have ab:=ZpC hz;have ae:=Zje hz;rw[ab] at ad aa;have w1:=wi (w-z.W) (by omega) (by omega);obtain⟨zW,zH,zT,zK⟩:=z;simp only at af ab ae w1 ad aa;simp only[rowB,oneB,ab,ae,Ko];by_cases c1:zH<h
  ·rw[Kt c1];by_cases c2:zW=w
   ·rw[Kt c2];refine⟨_,_,_,_,_,rfl,?_⟩;refine cE ?_;simp +contextual -implicitDefEqProofs (maxSteps:=10^7) only[go_sem,seval,↓gZ,XC,hz,hm,c1,c2]<;>rfl
   ·rw[Kp c2];rcases r with _ | ⟨j,r⟩
    ·refine⟨_,_,_,_,_,rfl,?_⟩;refine cE ?_;simp +contextual -implicitDefEqProofs (maxSteps:=10^7) only[go_sem,seval,↓gZ,XC,hz,hm,c1,c2,w1]<;>rfl
    ·obtain⟨o,a,q,t,ks,hp,e1⟩:=Zaf W H ps ho (j :: r) (w-zW) h (by simp) aa (by omega) h0 h1;have g1:(1:Int)<((r.length+1+1:Nat):Int):=by omega
     have g2:(1:Int)≤((r.length+1+1:Nat):Int):=by omega
     simp only[Ko,Qs] at e1;refine⟨_,_,_,_,_,rfl,?_⟩;refine cE ?_;simp +contextual -implicitDefEqProofs (maxSteps:=10^7) only[go_sem,seval,↓gZ,XC,hz,hm,c1,c2,w1,e1,g1,g2,KZ,hp]<;>rfl
  ·rw[Kp c1];by_cases c2:zW=w
   ·rw[Kt c2];refine⟨_,_,_,_,_,rfl,?_⟩;refine cE ?_;simp +contextual -implicitDefEqProofs (maxSteps:=10^7) only[go_sem,seval,↓gZ,XC,hz,hm,c1,c2]<;>rfl
   ·rw[Kp c2];rcases r with _ | ⟨j,r⟩
    ·refine⟨_,_,_,_,_,rfl,?_⟩;refine cE ?_;simp +contextual -implicitDefEqProofs (maxSteps:=10^7) only[go_sem,seval,↓gZ,XC,hz,hm,c1,c2,w1]<;>rfl
    ·obtain⟨o,a,q,t,ks,hp,e1⟩:=Zaf W H ps ho (j :: r) (w-zW) h (by simp) aa (by omega) h0 h1;have g1:(1:Int)<((r.length+1+1:Nat):Int):=by omega
     have g2:(1:Int)≤((r.length+1+1:Nat):Int):=by omega
     simp only[Ko,Qs] at e1;refine⟨_,_,_,_,_,rfl,?_⟩;refine cE ?_;simp +contextual -implicitDefEqProofs (maxSteps:=10^7) only[go_sem,seval,↓gZ,XC,hz,hm,c1,c2,w1,e1,g1,g2,KZ,hp]<;>rfl
@[go_sem] theorem encR_len (r:List Int):(Zg6 r).cells.length=1:=rfl
@[go_sem] theorem uni_encR (l:List (List Int)):uni 1 (l.map Zg6)=True:=eq_true (Wo l fun _=>rfl)
theorem Za4 (W H:Int) (ps:List Pane) (ho:okP ps) (hW:W≤200):∀ (rs:List (List Int)) (h:Int),rs≠[]→VS ps W rs h→h≤200→∃ o a q t ks,(Zco ps W rs h).plan=.mk o a q t ks ∧
  Zu Xs Ms XY [.d (.agg [J W,J H,.sl (ps.map Pane.enc)]),.d (.sl (rs.map Zg6)),(.d (J h))] []=some (.agg [(.d (J o)),(.d (J a)),(.d (J q)),(.d (.bool t)),.own 0],[.row 5 (ks.map Zs.enc) true false])
 | [],h,hn,_,_=>absurd rfl hn
 | row :: rs,h,_,hf,hh=>by
  obtain⟨ae,ab,h1,aa⟩:=hf;rcases row with _ | ⟨i,row⟩
  ·exact absurd rfl ae
  ·obtain⟨m,rfl,hm⟩:=ab.1;obtain⟨z,hz⟩:=Z1 hm;have af:=ho z (Kg hz);have ad:=Zje hz;have hd:hd0 ps ((m:Int) :: row)=z.H:=ad;rw[hd] at h1 aa;obtain⟨o,a,q,t,ks,hp,e1⟩:=Zaf W H ps ho ((m:Int) :: row) W z.H (by simp) ab hW (by omega) (by omega);have w1:=wi (h-z.H) (by omega) (by omega);obtain⟨zW,zH,zT,zK⟩:=z;simp only at af ad hd h1 aa hp e1 w1;have ag:Zg6 ((m:Int) :: row)=.agg [.sl (J (m:Int) :: row.map Qs)]:=rfl;simp only[Ko,Qs] at e1;simp only[Zco,hd,Ko,ag];by_cases c1:zH=h
   ·rw[Kt c1];subst c1;refine⟨o,a,q,t,ks,hp,?_⟩;refine cE ?_;simp +contextual -implicitDefEqProofs (maxSteps:=10^7) only[go_sem,seval,↓gZ,Y6,hz,hm,e1]
   ·rw[Kp c1];rcases rs with _ | ⟨j,rs⟩
    ·refine⟨_,_,_,_,_,rfl,?_⟩;refine cE ?_;simp +contextual -implicitDefEqProofs (maxSteps:=10^7) only[go_sem,seval,↓gZ,Y6,hz,hm,c1,e1,hp]<;>rfl
    ·obtain⟨o2,a2,q2,t2,ai,ah,e2⟩:=Za4 W H ps ho hW (j :: rs) (h-zH) (by simp) aa (by omega);have g1:(1:Int)<((rs.length+1+1:Nat):Int):=by omega
     have g2:(1:Int)≤((rs.length+1+1:Nat):Int):=by omega
     simp only[Ko] at e2;refine⟨_,_,_,_,_,rfl,?_⟩;refine cE ?_;simp +contextual -implicitDefEqProofs (maxSteps:=10^7) only[go_sem,seval,↓gZ,Y6,hz,hm,c1,w1,e1,e2,g1,g2,KZ,hp,ah]<;>rfl
end Go.Proofs.Ytefabmohhbhlfaa
