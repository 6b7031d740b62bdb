/- Own text. -/
import Derived.Test.YtefabmohhbhlfaaCCode
import Derived.Test.YtefabmohhbhlfaaAbsParts
import Derived.Test.YtefabmohhbhlfaaCC11
import Derived.Test.YtefabmohhbhlfaaAbsOkD
namespace Go.Proofs.Ytefabmohhbhlfaa
open Go Go.Abs Go.Abs.E Go.Abs.L
open Nat (reduceMul reduceSub reduceLeDiff reduceEqDiff)
open Int (reduceLE reduceEq reduceToNat reduceNeg)
set_option linter.unusedSimpArgs false
set_option linter.unusedVariables false
set_option maxRecDepth 20000
set_option maxHeartbeats 4000000
def goL (ps:List Pane) (W H:Int):List Int→List (List Int)→Int→Int→List Int→List (List (List Int))
 | row,rows,_,_,[]=>[rows++[row]]
 | row,rows,r,a,i :: l=>if wI ps i≤r then goL ps W H (row++[i]) rows (r-wI ps i) a l
  else if hI ps i≤a then goL ps W H [i] (rows++[row]) (W-wI ps i) (a-hI ps i) l
  else (rows++[row]) :: goL ps W H [i] [] (W-wI ps i) (H-hI ps i) l
def shL (ps:List Pane) (W H:Int):List Int→List (List (List Int))
 | []=>[]
 | i :: l=>goL ps W H [i] [] (W-wI ps i) (H-hI ps i) l
def ZhV (row:List Int):D:=.agg [.sl (row.map Qn)]
def ZdW (rows:List (List Int)):D:=.agg [.sl (rows.map ZhV)]
def Xg (k:ZO):Prop:=VW k∧∀ x∈k.Panes,x.Turns=false∧x.W≤k.W∧x.H≤k.H
instance (k:ZO):Decidable (Xg k):=by unfold Xg;infer_instance
theorem ZeS {ps:List Pane} (h:VPs ps):okP ps:=fun x hx=>by
 have:=h x hx;simp only[VP] at this;omega
theorem ZhW (kW kH:Int) (kP:List Pane):Zj Xs Ms Vo [(.d (.agg [J kW,J kH,.sl (kP.map Pane.enc)]))] []=some ((.d (.bool (decide (Xg (ZO.mk kW kH kP))))),[]):=by
 have e1:=XO kW kH kP;by_cases hv:VW (ZO.mk kW kH kP)
 ·rw[KN hv] at e1;have hl:kP.length≤24:=hv.2.2.2.2.1;refine cE ?_;simp +contextual -implicitDefEqProofs (maxSteps:=10^7) only[go_sem,seval,↓gZ,WU,e1];refine LO (α:=Nat) (fun i=>[(11,.d (J (i:Int)))]) (fun _=>[]) (fun i=>i≤kP.length∧∀ x∈kP.take i,x.Turns=false∧x.W≤kW∧x.H≤kH) (fun i=>kP.length-i) 0 ⟨by omega,by simp⟩ ?_;intro i ⟨hi,hb⟩ ih;by_cases ab:i<kP.length
  ·obtain⟨⟨xW,xH,xT,xK⟩,hx⟩:=ZE ab;have hw:=ZD (k:=i) (by omega);have ad:=Ke hx;by_cases c1:xT=true
   ·have aa:¬Xg (ZO.mk kW kH kP):=fun h=>by have:=(h.2 _ ad).1;simp[c1] at this
    rw[Ky aa];simp +contextual -implicitDefEqProofs (maxSteps:=10^7) only[go_sem,seval,↓gZ,hx,ab,c1]
   ·rw[L4] at c1;by_cases c2:kW<xW
    ·have aa:¬Xg (ZO.mk kW kH kP):=fun h=>by have:=(h.2 _ ad).2.1;simp only at this;omega
     rw[Ky aa];simp +contextual -implicitDefEqProofs (maxSteps:=10^7) only[go_sem,seval,↓gZ,hx,ab,c1,c2]
    ·by_cases c3:kH<xH
     ·have aa:¬Xg (ZO.mk kW kH kP):=fun h=>by have:=(h.2 _ ad).2.2;simp only at this;omega
      rw[Ky aa];simp +contextual -implicitDefEqProofs (maxSteps:=10^7) only[go_sem,seval,↓gZ,hx,ab,c1,c2,c3]
     ·simp +contextual -implicitDefEqProofs (maxSteps:=10^7) only[go_sem,seval,↓gZ,hx,ab,c1,c2,c3,hw];refine ih (i+1) _ ⟨by omega,fun y hy=>?_⟩ (by omega) ?_
      ·rw[KE,hx] at hy;simp only[Kad,Kd,Kv] at hy;rcases hy with hy | rfl
       ·exact hb y hy
       ·exact⟨c1,by simp only;omega,by simp only;omega⟩
      ·simp +contextual -implicitDefEqProofs (maxSteps:=10^7) only[go_sem,seval,↓gZ]
  ·have:i=kP.length:=by omega
   subst this;rw[Li] at hb;have ae:Xg (ZO.mk kW kH kP):=⟨hv,hb⟩
   rw[KN ae];simp +contextual -implicitDefEqProofs (maxSteps:=10^7) only[go_sem,seval,↓gZ]
 ·have aa:¬Xg (ZO.mk kW kH kP):=fun h=>hv h.1;rw[Ky hv] at e1;rw[Ky aa];refine cE ?_;simp +contextual -implicitDefEqProofs (maxSteps:=10^7) only[go_sem,seval,↓gZ,WU,e1]
def shInv (ps:List Pane) (W H:Int) (O:List Int) (s:Nat×List (List (List Int))×Int×Int):Prop:=s.1≤O.length ∧
 (s.1=0∧s.2.1=[]∧s.2.2.1=0∧s.2.2.2=0∨∃ done rows row,s.2.1=done++[rows++[row]]∧done++goL ps W H row rows s.2.2.1 s.2.2.2 (O.drop s.1)=shL ps W H O∧(done.length≤s.1∧rows.length≤s.1∧row.length≤s.1)∧0≤s.2.2.1∧s.2.2.1≤200∧0≤s.2.2.2∧s.2.2.2≤200)
theorem Zk8 (kW kH:Int) (kP:List Pane) (hp:Xg (ZO.mk kW kH kP)) (hl:kP.length≤19):Zj Xs Ms VQ [(.d (.agg [J kW,J kH,.sl (kP.map Pane.enc)]))] []=some (.own 0,[.row 1 ((shL kP kW kH (Qf (hI kP) kP.length)).map ZdW) true false]):=by
 have ho:okP kP:=ZeS hp.1.2.2.2.2.2;have e1:=Zk7 kW kH kP kP.length (Kh _) hl ho;have ah:=VO (hI kP) kP.length;have ap:∀ x∈Qf (hI kP) kP.length,∃ m:Nat,x=(m:Int)∧m<kP.length:=fun x hx=>WL _ hx;generalize Qf (hI kP) kP.length=O at *;have hW:1≤kW∧kW≤200∧1≤kH∧kH≤200:=⟨hp.1.1,hp.1.2.1,hp.1.2.2.1,hp.1.2.2.2.1⟩
 refine cE ?_;simp +contextual -implicitDefEqProofs (maxSteps:=10^7) only[go_sem,seval,↓gZ,ZbK,e1,ah];refine LO (α:=Nat×List (List (List Int))×Int×Int) (fun s=>[(17,.d (J (s.1:Int))),(5,.d (J s.2.2.2)),(4,.d (J s.2.2.1))]) (fun s=>[(1,.tree 1 1 (s.2.1.map ZdW) none)]) (shInv kP kW kH O) (fun s=>O.length-s.1) (0,[],0,0) ⟨by omega,.inl ⟨rfl,rfl,rfl,rfl⟩⟩ ?_;intro⟨p,S,r,a⟩ ⟨hi,hb⟩ ih;simp only at hi hb;by_cases ad:p<O.length
 ·obtain⟨x,hx⟩:=ZE ad;obtain⟨m,rfl,hm⟩:=ap x (Ke hx);obtain⟨z,hz⟩:=ZE hm;have aq:=ho z (Ke hz);have ar:=hp.2 z (Ke hz);have ae:=ZdV hz;have af:=Jv hz;have ag:=ZD (k:=p) (by omega);have aa : p<kP.length:=by omega
  have hd:O.drop p=(m:Int) :: O.drop (p+1):=by
   obtain⟨h1,h2⟩:=Kc.1 hx;rw[K3 h1,h2]
  obtain⟨zW,zH,zT,zK⟩:=z;simp only at aq ar ae af;have w1:=wi (kW-zW) (by omega) (by omega);have w2:=wi (kH-zH) (by omega) (by omega);have ai:(p:Int)<(kP.length:Int):=by omega
  rcases hb with ⟨rfl,rfl,rfl,rfl⟩ | ⟨done,rows,row,rfl,hg,hc,aw,ax,ay,ha1⟩
  ·have c1:¬zW≤0:=by omega
   have c2:¬zH≤0:=by omega
   have au:(0:Int)<(kP.length:Int):=by omega
   simp +contextual -implicitDefEqProofs (maxSteps:=10^7) only[go_sem,seval,↓gZ,hx,ad,aa,hz,hm,c1,c2,w1,w2,ag,au];refine ih (1,[[[(m:Int)]]],kW-zW,kH-zH) _ ⟨by simp only;omega,.inr ⟨[],[],[(m:Int)],rfl,?_,by simp,by simp only;omega,by simp only;omega,by simp only;omega,by simp only;omega⟩⟩ (by simp only;omega) ?_
   ·simp only[K4];rw[Kag] at hd
    conv=>rhs;rw[hd]
    rw[shL,ae,af]
   ·simp +contextual -implicitDefEqProofs (maxSteps:=10^7) only[go_sem,seval,↓gZ]<;>exact rfl
  ·obtain⟨X,hX⟩:∃ X,(done++[rows++[row]]).map ZdW=X:=⟨_,rfl⟩
   obtain⟨Y,hY⟩:∃ Y,(rows++[row]).map ZhV=Y:=⟨_,rfl⟩
   obtain⟨R,hR⟩:∃ R,row.map Qn=R:=⟨_,rfl⟩
   have aj:X.length=done.length+1:=by rw[← hX];simp
   have ak:X[done.length]?=some (.agg [.sl Y]):=by rw[← hX,← hY];simp[ZdW]
   have al:Y.length=rows.length+1:=by rw[← hY];simp
   have am:Y[rows.length]?=some (.agg [.sl R]):=by rw[← hY,← hR];simp[ZhV]
   have an:R.length=row.length:=by rw[← hR];simp
   have ao:Wr D.flat R=true:=by
    rw[← hR];have hk:∀ l:List Int,Wr D.flat (l.map Qn)=true:=fun l=>by
     induction l with
     | nil=>rfl
     | cons a l ih=>exact ih
    exact hk _
   have w3:IntKind.i64.wrap (((done.length+1:Nat):Int)-1)=(done.length:Int):=by rw[Xy (by omega) (by omega)];omega
   have w4:=wi ((rows.length:Nat):Int) (by omega) (by omega);have n4:((rows.length+1:Nat):Int)-1=(rows.length:Int):=by omega
   have gX:∀ A:D,(X.set done.length A)[done.length]?=some A:=fun A=>by rw[LA,Ko rfl,Ko (by omega)]
   have gY:∀ A:D,(Y.set rows.length A)[rows.length]?=some A:=fun A=>by rw[LA,Ko rfl,Ko (by omega)]
   have g1:done.length<done.length+1:=by omega
   have g2:rows.length<rows.length+1:=by omega
   have ab:Wr D.flat (R++[D.int .i64 (m:Int)])=true:=by
    rw[← hR];have hk:∀ l:List Int,Wr D.flat (l.map Qn++[D.int .i64 (m:Int)])=true:=fun l=>by
     induction l with
     | nil=>rfl
     | cons a l ih=>exact ih
    exact hk _
   have g3:(row.length+1)*8≤140737488355328∧row.length≤140737488355327:=by omega
   by_cases c1:zW≤r
   ·have w5:=wi (r-zW) (by omega) (by omega);simp +contextual -implicitDefEqProofs (maxSteps:=10^7) only[go_sem,seval,↓gZ,hx,ad,aa,ai,hz,hm,c1,hX,aj,ak,al,am,an,ao,ab,w3,w4,n4,gX,gY,g1,g2,g3,w5,ag,Kaa,List.set_set,LB];have hN:X.set done.length (D.agg [D.sl (Y.set rows.length (D.agg [D.sl (R++[D.int .i64 (m:Int)])]))])=(done++[rows++[row++[(m:Int)]]]).map ZdW:=by
     rw[← hX,← hY,← hR];simp[ZdW,ZhV,Qn]
    refine ih (p+1,done++[rows++[row++[(m:Int)]]],r-zW,a) _ ⟨by simp only;omega,.inr ⟨done,rows,row++[(m:Int)],rfl,?_,by simp only[Kj,Kg,KH];omega,by simp only;omega,by simp only;omega,by simp only;omega,by simp only;omega⟩⟩ (by simp only;omega) ?_
    ·rw[hd,goL,ae,Ko c1] at hg;exact hg
    ·simp +contextual -implicitDefEqProofs (maxSteps:=10^7) only[go_sem,seval,↓gZ,hN]<;>exact rfl
   ·by_cases c2:zH≤a
    ·have w6:=wi (a-zH) (by omega) (by omega);have g6:rows.length≤140737488355326:=by omega
     have g4:(rows.length+1+1)*24≤140737488355328∧rows.length+1≤140737488355327:=by omega
     simp +contextual -implicitDefEqProofs (maxSteps:=10^7) only[go_sem,seval,↓gZ,hx,ad,aa,ai,hz,hm,c1,c2,hX,aj,ak,al,am,an,ao,ab,w1,w3,w4,n4,gX,gY,g1,g2,g3,g4,g6,w6,ag,Kaa,List.set_set,LB];have hN:X.set done.length (D.agg [D.sl (Y++[D.agg [D.sl [D.int .i64 (m:Int)]]])])=(done++[rows++[row]++[[(m:Int)]]]).map ZdW:=by
      rw[← hX,← hY];simp[ZdW,ZhV,Qn]
     refine ih (p+1,done++[rows++[row]++[[(m:Int)]]],kW-zW,a-zH) _ ⟨by simp only;omega,.inr ⟨done,rows++[row],[(m:Int)],rfl,?_,by simp only[Kj,Kg,KH];omega,by simp only;omega,by simp only;omega,by simp only;omega,by simp only;omega⟩⟩ (by simp only;omega) ?_
     ·rw[hd,goL,ae,Kn c1,af,Ko c2] at hg;exact hg
     ·simp +contextual -implicitDefEqProofs (maxSteps:=10^7) only[go_sem,seval,↓gZ,hN]<;>exact rfl
    ·have g7:done.length≤140737488355326:=by omega
     have g5:(done.length+1+1)*24≤140737488355328∧done.length+1≤140737488355327:=by omega
     simp +contextual -implicitDefEqProofs (maxSteps:=10^7) only[go_sem,seval,↓gZ,hx,ad,aa,ai,hz,hm,c1,c2,hX,aj,ak,al,am,an,ao,ab,w1,w2,w3,w4,n4,gX,gY,g1,g2,g3,g5,g7,ag,Kaa,List.set_set,LB];have hN:X++[D.agg [D.sl [D.agg [D.sl [D.int .i64 (m:Int)]]]]]=(done++[rows++[row]]++[[[(m:Int)]]]).map ZdW:=by
      rw[← hX];simp[ZdW,ZhV,Qn]
     refine ih (p+1,done++[rows++[row]]++[[[(m:Int)]]],kW-zW,kH-zH) _ ⟨by simp only;omega,.inr ⟨done++[rows++[row]],[],[(m:Int)],rfl,?_,by simp only[Kj,Kg,KH];omega,by simp only;omega,by simp only;omega,by simp only;omega,by simp only;omega⟩⟩ (by simp only;omega) ?_
     ·rw[hd,goL,ae,Kn c1,af,Kn c2] at hg;simpa using hg
     ·simp +contextual -implicitDefEqProofs (maxSteps:=10^7) only[go_sem,seval,↓gZ,hN]<;>exact rfl
 ·have av:p=kP.length:=by omega
  subst av;have hS:S=shL kP kW kH O:=by
   rcases hb with ⟨h0,rfl,_,_⟩ | ⟨done,rows,row,rfl,hg,_⟩
   ·rw[← ah,List.length_eq_zero_iff] at h0;subst h0;rfl
   ·rw[← ah,L7,goL] at hg;exact hg
  simp +contextual -implicitDefEqProofs (maxSteps:=10^7) only[go_sem,seval,↓gZ,hS]
end Go.Proofs.Ytefabmohhbhlfaa
namespace Go.Proofs.Ytefabmohhbhlfaa
open Go Go.Abs Go.Abs.E Go.Abs.L
open Nat (reduceMul reduceSub reduceLeDiff reduceEqDiff)
open Int (reduceLE reduceEq reduceToNat reduceNeg)
set_option linter.unusedSimpArgs false
set_option linter.unusedVariables false
set_option maxRecDepth 20000
set_option maxHeartbeats 4000000
def ZdX (ps:List Pane) (i:Int) (h:Int):BT:=if hI ps i<h then .cut false (hI ps i) (.pane i false) .waste else .pane i false
def J8 (ps:List Pane):List Int→Int→Int→BT
 | [],_,_=>.waste
 | i :: r,w,h=>if wI ps i=w then ZdX ps i h else .cut true (wI ps i) (ZdX ps i h) (J8 ps r (w-wI ps i) h)
def hd0 (ps:List Pane):List Int→Int
 | []=>0
 | i :: _=>hI ps i
def ZS (ps:List Pane) (W:Int):List (List Int)→Int→BT
 | [],_=>.waste
 | row :: rs,h=>if hd0 ps row=h then J8 ps row W (hd0 ps row) else .cut false (hd0 ps row) (J8 ps row W (hd0 ps row)) (ZS ps W rs (h-hd0 ps row))
def Wj (ps:List Pane):List Int→Int→Prop
 | [],w=>0≤w
 | i :: r,w=>(∃ m:Nat,i=(m:Int)∧m<ps.length)∧wI ps i≤w∧Wj ps r (w-wI ps i)
def YR (ps:List Pane) (W:Int):List (List Int)→Int→Prop
 | [],h=>0≤h
 | row :: rs,h=>row≠[]∧Wj ps row W∧hd0 ps row≤h∧YR ps W rs (h-hd0 ps row)
theorem ZaO (W H:Int) (ps:List Pane) (ho:okP ps):∀ (row:List Int) (w h:Int),row≠[]→Wj ps row w→w≤200→0≤h→h≤200→∃ o a q t ks,(J8 ps row w h).plan=.mk o a q t ks ∧
  Zj Xs Ms VR [.d (.agg [J W,J H,.sl (ps.map Pane.enc)]),.d (.sl (row.map Qn)),(.d (J w)),(.d (J h))] []=some (.agg [(.d (J o)),(.d (J a)),(.d (J q)),(.d (.bool t)),.own 0],[.row 5 (ks.map Zl.enc) true false])
 | [],w,h,hn,_,_,_,_=>absurd rfl hn
 | i :: r,w,h,_,hf,hw,h0,h1=>by
  obtain⟨⟨m,rfl,hm⟩,ad,aa⟩:=hf;obtain⟨z,hz⟩:=ZE hm;have af:=ho z (Ke hz);have ab:=ZdV hz;have ae:=Jv hz;rw[ab] at ad aa;have w1:=wi (w-z.W) (by omega) (by omega);obtain⟨zW,zH,zT,zK⟩:=z;simp only at af ab ae w1 ad aa;simp only[J8,ZdX,ab,ae,Kq];by_cases c1:zH<h
  ·rw[Ko c1];by_cases c2:zW=w
   ·rw[Ko c2];refine⟨_,_,_,_,_,rfl,?_⟩;refine cE ?_;simp +contextual -implicitDefEqProofs (maxSteps:=10^7) only[go_sem,seval,↓gZ,XV,hz,hm,c1,c2]<;>rfl
   ·rw[Kn c2];rcases r with _ | ⟨j,r⟩
    ·refine⟨_,_,_,_,_,rfl,?_⟩;refine cE ?_;simp +contextual -implicitDefEqProofs (maxSteps:=10^7) only[go_sem,seval,↓gZ,XV,hz,hm,c1,c2,w1]<;>rfl
    ·obtain⟨o,a,q,t,ks,hp,e1⟩:=ZaO W H ps ho (j :: r) (w-zW) h (by simp) aa (by omega) h0 h1;have g1:(1:Int)<((r.length+1+1:Nat):Int):=by omega
     have g2:(1:Int)≤((r.length+1+1:Nat):Int):=by omega
     simp only[Kq,Qn] at e1;refine⟨_,_,_,_,_,rfl,?_⟩;refine cE ?_;simp +contextual -implicitDefEqProofs (maxSteps:=10^7) only[go_sem,seval,↓gZ,XV,hz,hm,c1,c2,w1,e1,g1,g2,Li,hp]<;>rfl
  ·rw[Kn c1];by_cases c2:zW=w
   ·rw[Ko c2];refine⟨_,_,_,_,_,rfl,?_⟩;refine cE ?_;simp +contextual -implicitDefEqProofs (maxSteps:=10^7) only[go_sem,seval,↓gZ,XV,hz,hm,c1,c2]<;>rfl
   ·rw[Kn c2];rcases r with _ | ⟨j,r⟩
    ·refine⟨_,_,_,_,_,rfl,?_⟩;refine cE ?_;simp +contextual -implicitDefEqProofs (maxSteps:=10^7) only[go_sem,seval,↓gZ,XV,hz,hm,c1,c2,w1]<;>rfl
    ·obtain⟨o,a,q,t,ks,hp,e1⟩:=ZaO W H ps ho (j :: r) (w-zW) h (by simp) aa (by omega) h0 h1;have g1:(1:Int)<((r.length+1+1:Nat):Int):=by omega
     have g2:(1:Int)≤((r.length+1+1:Nat):Int):=by omega
     simp only[Kq,Qn] at e1;refine⟨_,_,_,_,_,rfl,?_⟩;refine cE ?_;simp +contextual -implicitDefEqProofs (maxSteps:=10^7) only[go_sem,seval,↓gZ,XV,hz,hm,c1,c2,w1,e1,g1,g2,Li,hp]<;>rfl
@[go_sem] theorem encR_len (r:List Int):(ZhV r).cells.length=1:=rfl
@[go_sem] theorem uni_encR (l:List (List Int)):uni 1 (l.map ZhV)=True:=eq_true (V2 l fun _=>rfl)
theorem ZbG (W H:Int) (ps:List Pane) (ho:okP ps) (hW:W≤200):∀ (rs:List (List Int)) (h:Int),rs≠[]→YR ps W rs h→h≤200→∃ o a q t ks,(ZS ps W rs h).plan=.mk o a q t ks ∧
  Zj Xs Ms Yh [.d (.agg [J W,J H,.sl (ps.map Pane.enc)]),.d (.sl (rs.map ZhV)),(.d (J h))] []=some (.agg [(.d (J o)),(.d (J a)),(.d (J q)),(.d (.bool t)),.own 0],[.row 5 (ks.map Zl.enc) true false])
 | [],h,hn,_,_=>absurd rfl hn
 | row :: rs,h,_,hf,hh=>by
  obtain⟨ae,ab,h1,aa⟩:=hf;rcases row with _ | ⟨i,row⟩
  ·exact absurd rfl ae
  ·obtain⟨m,rfl,hm⟩:=ab.1;obtain⟨z,hz⟩:=ZE hm;have af:=ho z (Ke hz);have ad:=Jv hz;have hd:hd0 ps ((m:Int) :: row)=z.H:=ad;rw[hd] at h1 aa;obtain⟨o,a,q,t,ks,hp,e1⟩:=ZaO W H ps ho ((m:Int) :: row) W z.H (by simp) ab hW (by omega) (by omega);have w1:=wi (h-z.H) (by omega) (by omega);obtain⟨zW,zH,zT,zK⟩:=z;simp only at af ad hd h1 aa hp e1 w1;have ag:ZhV ((m:Int) :: row)=.agg [.sl (J (m:Int) :: row.map Qn)]:=rfl;simp only[Kq,Qn] at e1;simp only[ZS,hd,Kq,ag];by_cases c1:zH=h
   ·rw[Ko c1];subst c1;refine⟨o,a,q,t,ks,hp,?_⟩;refine cE ?_;simp +contextual -implicitDefEqProofs (maxSteps:=10^7) only[go_sem,seval,↓gZ,Vv,hz,hm,e1]
   ·rw[Kn c1];rcases rs with _ | ⟨j,rs⟩
    ·refine⟨_,_,_,_,_,rfl,?_⟩;refine cE ?_;simp +contextual -implicitDefEqProofs (maxSteps:=10^7) only[go_sem,seval,↓gZ,Vv,hz,hm,c1,e1,hp]<;>rfl
    ·obtain⟨o2,a2,q2,t2,ai,ah,e2⟩:=ZbG W H ps ho hW (j :: rs) (h-zH) (by simp) aa (by omega);have g1:(1:Int)<((rs.length+1+1:Nat):Int):=by omega
     have g2:(1:Int)≤((rs.length+1+1:Nat):Int):=by omega
     simp only[Kq] at e2;refine⟨_,_,_,_,_,rfl,?_⟩;refine cE ?_;simp +contextual -implicitDefEqProofs (maxSteps:=10^7) only[go_sem,seval,↓gZ,Vv,hz,hm,c1,w1,e1,e2,g1,g2,Li,hp,ah]<;>rfl
end Go.Proofs.Ytefabmohhbhlfaa
