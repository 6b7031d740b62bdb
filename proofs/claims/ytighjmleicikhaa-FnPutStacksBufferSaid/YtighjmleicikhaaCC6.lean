/- Own text. -/
import Derived.Test.YtighjmleicikhaaCCode
import Derived.Test.YtighjmleicikhaaAbsParts
import Derived.Test.YtighjmleicikhaaCC4
import Derived.Test.YtighjmleicikhaaCC2
namespace Go.Proofs.Ytighjmleicikhaa
open Go Go.Abs Go.Abs.E Go.Abs.L
open Nat (reduceMul reduceSub reduceLeDiff reduceEqDiff)
open Int (reduceLE reduceEq reduceToNat reduceNeg)
set_option linter.unusedSimpArgs false
set_option linter.unusedVariables false
set_option maxRecDepth 20000
set_option maxHeartbeats 4000000
def QJ (S:List Int):Nat→AV
 | 0=>.own 0
 | k+1=>.ownv 0 (k+1) (S.length-(k+1))
theorem Zod (l:List Int):((l.map Zs).map unI).map mkI=l.map Zs:=by
 simp only[List.map_map];rfl
theorem Znl (l:List Int):(l.map Zs).map unI=l:=by
 simp[List.map_map,Function.comp_def,unI,Zs]
theorem Zoe (l:List Int):l.map mkI=l.map Zs:=rfl
theorem Zma (l:List Int) (ex:Bool) (h0:0<l.length) (hl:l.length≤1000):Zu Xs Ms ZB [.own 0] [.row 1 (l.map Zs) ex false]=some (.tup [],[.row 1 ((QP l).map Zs) ex false]):=by
 have aa:l.map Zs≠[]:=fun e=>by rw[List.map_eq_nil_iff] at e;subst e;simp at h0
 refine ZjZ Xs Ms ZdA ?_;unfold Zgw;simp only;rw[Kw ⟨rfl,aa,by rw[Lf];omega,Zod l⟩,Znl,Zoe]
theorem Znm (l:List Int):(QP l).length=l.length:=(ZcJ l).length_eq
theorem Zi9 (room:Nat) (left:List Int) (x:Int) (b:List Int):drn room left (x :: b)=if (x=(left.length:Int)∧inO left=true)∨room<b.length+1 then drn room (left++[x]) b+1 else 0:=rfl
theorem Ji (l:List Int) (room:Nat) (ho:QT l) (hr:room≤24):Zu Xs Ms Xh [.d (.sl (l.map Zs)),(.d (J ((room:Nat))))] []=some (.own 0,[.row 1 ((psL room [] [] l).map Zs) true false]):=by
 have a7:=ho.1;have e1:=QA l (by omega);rw[Ku ho] at e1;have r1:¬(room:Int)<0:=by omega
 have r2:¬(24:Int)<(room:Int):=by omega
 refine cE ?_;simp +contextual -implicitDefEqProofs (maxSteps:=10^7) only[go_sem,seval,↓gZ,WH,e1,r1,r2];refine LO (α:=Nat×List Int×List Int×Nat×Bool) (fun s=>[(23,.d (J (s.1:Int))),(6,QJ s.2.2.1 s.2.2.2.1)]) (fun s=>[(1,.row 1 (s.2.1.map Zs) true false),(0,.row 1 (s.2.2.1.map Zs) s.2.2.2.2 false)]) (fun s=>s.1≤l.length∧s.2.2.2.1≤s.2.2.1.length∧s.2.2.1.length≤s.1∧s.2.1.length≤s.1∧psL room s.2.1 (s.2.2.1.drop s.2.2.2.1) (l.drop s.1)=psL room [] [] l∧s.2.1.length+(s.2.2.1.length-s.2.2.2.1)≤s.1) (fun s=>l.length-s.1) (0,[],[],0,true) ⟨by simp,by simp,by simp,by simp,by simp,by simp⟩ ?_;intro⟨i,left,S,k,ex⟩ ⟨hi,hk,hS,hle,hp,hsum⟩ ih
 simp only at hi hk hS hle hp hsum;by_cases aw:i<l.length
 ·obtain⟨x,hx⟩:=ZW aw;have hw:=ZF (k:=i) (by omega);have a2:l.drop i=x :: l.drop (i+1):=by
   obtain⟨g1,g2⟩:=Kb.1 hx;rw[Lb g1,g2]
  rw[a2,psL] at hp;have au:(S.drop k).length=S.length-k:=KM;have e2:=fun ex=>Zma (S.drop k++[x]) ex (by simp) (by rw[Ko,au];simp only[Kv,Lm];omega);have a8:(QP (S.drop k++[x])).length=S.length-k+1:=by rw[Znm,Ko,au];rfl
  have a3:=e2 ex;have a4:=e2 false;clear e2;have a9:(left.length+1)*8≤140737488355328∧left.length≤140737488355327:=by omega
  by_cases a5:k=0
  ·subst a5;simp only[List.drop_zero,LF] at *;have ax:(S.length+1)*8≤140737488355328∧S.length≤140737488355327:=by omega
   have eS:S.map Zs++[D.int .i64 x]=(S++[x]).map Zs:=by rw[K3];rfl
   obtain⟨am,ag⟩:∃ e:Bool,e=ex:=⟨_,rfl⟩
   simp +contextual -implicitDefEqProofs (maxSteps:=10^7) only[go_sem,seval,↓gZ,hx,aw,QJ,ax,eS,a3];generalize QP (S++[x])=T at *;refine Vv Xs Ms (st0:=?st2) (α:=Nat) (fun c=>[(6,QJ T c)]) (fun c=>[(1,.row 1 ((left++T.take c).map Zs) true false)]) (fun c=>c≤T.length∧drn room (left++T.take c) (T.drop c)+c=drn room left T) (fun c=>T.length-c) 0 ?hc2 ⟨by omega,by simp⟩ ?h02 ?step2
   case hc2=>simp +contextual -implicitDefEqProofs (maxSteps:=10^7) only[go_sem,seval,↓gZ]<;>exact rfl
   case h02=>simp only[Ls,LI];rfl
   case step2=>
    intro c ⟨hc,hd⟩ aj;have ay:(T.take c).length=c:=by rw[KQ];omega
    have ap:(left++T.take c).length=left.length+c:=by rw[Ko,ay]
    have e3:=U9 (left++T.take c) (by omega);by_cases az:c<T.length
    ·obtain⟨y,hy⟩:=ZW az;have a0:T.drop c=y :: T.drop (c+1):=by
      obtain⟨g1,g2⟩:=Kb.1 hy;rw[Lb g1,g2]
     have a1:(T.drop (c+1)).length+1=T.length-c:=by rw[KM];omega
     have ak:(left++T.take (c+1)).map Zs=(left++T.take c).map Zs++[J y]:=by rw[KD,hy,← KR,K3];rfl
     have ai:left++T.take (c+1)=left++T.take c++[y]:=by rw[KD,hy,KR];rfl
     rw[a0,Zi9,a1,ap] at hd;have al:((left++T.take c).length+1)*8≤140737488355328∧(left++T.take c).length≤140737488355327:=by omega
     by_cases cy:y=((left++T.take c).length:Int)∧inO (left++T.take c)=true
     ·rw[Kw (.inl (by rw[← ap];exact cy))] at hd;obtain⟨ad,aq⟩:=cy;rw[aq] at e3;have ae:c+1≤T.length∧drn room (left++T.take (c+1)) (T.drop (c+1))+(c+1)=drn room left T:=⟨by omega,by rw[ai];omega⟩
      generalize an:left++T.take c=LL at *;cases c with
      | zero=>
       have aa:(0:Int)<(T.length:Int):=by omega
       have ah:(1:Int)≤(T.length:Int):=by omega
       have ab:0<T.length:=by omega
       simp +contextual -implicitDefEqProofs (maxSteps:=10^7) only[go_sem,seval,↓gZ,QJ,aa,ah,ab,hy,ad,e3,al];refine aj (0+1) _ ae (by omega) ?_;simp +contextual -implicitDefEqProofs (maxSteps:=10^7) only[go_sem,seval,↓gZ,QJ,ak,ad]
      | succ u=>
       have aa:(0:Int)<((T.length-(u+1):Nat):Int):=by omega
       have ah:(1:Int)≤((T.length-(u+1):Nat):Int):=by omega
       have ab:0<T.length-(u+1):=by omega
       have ao:T.length-(u+1)-1=T.length-(u+1+1):=by omega
       simp +contextual -implicitDefEqProofs (maxSteps:=10^7) only[go_sem,seval,↓gZ,QJ,aa,ah,ab,ao,hy,ad,e3,al];refine aj (u+1+1) _ ae (by omega) ?_;simp +contextual -implicitDefEqProofs (maxSteps:=10^7) only[go_sem,seval,↓gZ,QJ,ak,ad]
     ·rw[← ap] at hd;by_cases ad:y=((left++T.take c).length:Int)
      ·have aq:inO (left++T.take c)=false:=by
        cases h:inO (left++T.take c) with
        | false=>rfl
        | true=>exact absurd ⟨ad,h⟩ cy
       rw[aq] at e3;by_cases cr:room<T.length-c
       ·rw[Kw (.inr cr)] at hd;have ae:c+1≤T.length∧drn room (left++T.take (c+1)) (T.drop (c+1))+(c+1)=drn room left T:=⟨by omega,by rw[ai];omega⟩
        generalize an:left++T.take c=LL at *;cases c with
        | zero=>
         have aa:(0:Int)<(T.length:Int):=by omega
         have ah:(1:Int)≤(T.length:Int):=by omega
         have ab:0<T.length:=by omega
         have af:¬(T.length:Int)≤(room:Int):=by omega
         simp +contextual -implicitDefEqProofs (maxSteps:=10^7) only[go_sem,seval,↓gZ,QJ,aa,ah,ab,af,hy,ad,e3,al];refine aj (0+1) _ ae (by omega) ?_;simp +contextual -implicitDefEqProofs (maxSteps:=10^7) only[go_sem,seval,↓gZ,QJ,ak,ad]
        | succ u=>
         have aa:(0:Int)<((T.length-(u+1):Nat):Int):=by omega
         have ah:(1:Int)≤((T.length-(u+1):Nat):Int):=by omega
         have ab:0<T.length-(u+1):=by omega
         have af:¬((T.length-(u+1):Nat):Int)≤(room:Int):=by omega
         have ao:T.length-(u+1)-1=T.length-(u+1+1):=by omega
         simp +contextual -implicitDefEqProofs (maxSteps:=10^7) only[go_sem,seval,↓gZ,QJ,aa,ah,ab,af,ao,hy,ad,e3,al];refine aj (u+1+1) _ ae (by omega) ?_;simp +contextual -implicitDefEqProofs (maxSteps:=10^7) only[go_sem,seval,↓gZ,QJ,ak,ad]
       ·rw[Kn (fun h=>h.elim cy cr),KO] at hd;rw[← hd] at hp;have ae:i+1≤l.length∧c≤T.length∧T.length≤i+1∧(left++T.take c).length≤i+1∧psL room (left++T.take c) (T.drop c) (l.drop (i+1))=psL room [] [] l∧(left++T.take c).length+(T.length-c)≤i+1:=⟨by omega,by omega,by omega,by omega,hp,by omega⟩
        generalize an:left++T.take c=LL at *;cases c with
        | zero=>
         have aa:(0:Int)<(T.length:Int):=by omega
         have ab:0<T.length:=by omega
         have af:(T.length:Int)≤(room:Int):=by omega
         simp +contextual -implicitDefEqProofs (maxSteps:=10^7) only[go_sem,seval,↓gZ,QJ,aa,ab,af,hy,ad,e3,hw];refine ih (i+1,LL,T,0,am) _ ae (by simp only;omega) ?_;simp +contextual -implicitDefEqProofs (maxSteps:=10^7) only[go_sem,seval,↓gZ,QJ,ag]
        | succ u=>
         have aa:(0:Int)<((T.length-(u+1):Nat):Int):=by omega
         have ab:0<T.length-(u+1):=by omega
         have af:((T.length-(u+1):Nat):Int)≤(room:Int):=by omega
         simp +contextual -implicitDefEqProofs (maxSteps:=10^7) only[go_sem,seval,↓gZ,QJ,aa,ab,af,hy,ad,e3,hw];refine ih (i+1,LL,T,u+1,am) _ ae (by simp only;omega) ?_;simp +contextual -implicitDefEqProofs (maxSteps:=10^7) only[go_sem,seval,↓gZ,QJ,ag]
      ·by_cases cr:room<T.length-c
       ·rw[Kw (.inr cr)] at hd;have ae:c+1≤T.length∧drn room (left++T.take (c+1)) (T.drop (c+1))+(c+1)=drn room left T:=⟨by omega,by rw[ai];omega⟩
        generalize an:left++T.take c=LL at *;cases c with
        | zero=>
         have aa:(0:Int)<(T.length:Int):=by omega
         have ah:(1:Int)≤(T.length:Int):=by omega
         have ab:0<T.length:=by omega
         have af:¬(T.length:Int)≤(room:Int):=by omega
         simp +contextual -implicitDefEqProofs (maxSteps:=10^7) only[go_sem,seval,↓gZ,QJ,aa,ah,ab,af,hy,ad,al];refine aj (0+1) _ ae (by omega) ?_;simp +contextual -implicitDefEqProofs (maxSteps:=10^7) only[go_sem,seval,↓gZ,QJ,ak,ad]
        | succ u=>
         have aa:(0:Int)<((T.length-(u+1):Nat):Int):=by omega
         have ah:(1:Int)≤((T.length-(u+1):Nat):Int):=by omega
         have ab:0<T.length-(u+1):=by omega
         have af:¬((T.length-(u+1):Nat):Int)≤(room:Int):=by omega
         have ao:T.length-(u+1)-1=T.length-(u+1+1):=by omega
         simp +contextual -implicitDefEqProofs (maxSteps:=10^7) only[go_sem,seval,↓gZ,QJ,aa,ah,ab,af,ao,hy,ad,al];refine aj (u+1+1) _ ae (by omega) ?_;simp +contextual -implicitDefEqProofs (maxSteps:=10^7) only[go_sem,seval,↓gZ,QJ,ak,ad]
       ·rw[Kn (fun h=>h.elim cy cr),KO] at hd;rw[← hd] at hp;have ae:i+1≤l.length∧c≤T.length∧T.length≤i+1∧(left++T.take c).length≤i+1∧psL room (left++T.take c) (T.drop c) (l.drop (i+1))=psL room [] [] l∧(left++T.take c).length+(T.length-c)≤i+1:=⟨by omega,by omega,by omega,by omega,hp,by omega⟩
        generalize an:left++T.take c=LL at *;cases c with
        | zero=>
         have aa:(0:Int)<(T.length:Int):=by omega
         have ab:0<T.length:=by omega
         have af:(T.length:Int)≤(room:Int):=by omega
         simp +contextual -implicitDefEqProofs (maxSteps:=10^7) only[go_sem,seval,↓gZ,QJ,aa,ab,af,hy,ad,hw];refine ih (i+1,LL,T,0,am) _ ae (by simp only;omega) ?_;simp +contextual -implicitDefEqProofs (maxSteps:=10^7) only[go_sem,seval,↓gZ,QJ,ag]
        | succ u=>
         have aa:(0:Int)<((T.length-(u+1):Nat):Int):=by omega
         have ab:0<T.length-(u+1):=by omega
         have af:((T.length-(u+1):Nat):Int)≤(room:Int):=by omega
         simp +contextual -implicitDefEqProofs (maxSteps:=10^7) only[go_sem,seval,↓gZ,QJ,aa,ab,af,hy,ad,hw];refine ih (i+1,LL,T,u+1,am) _ ae (by simp only;omega) ?_;simp +contextual -implicitDefEqProofs (maxSteps:=10^7) only[go_sem,seval,↓gZ,QJ,ag]
    ·have a6:c=T.length:=by omega
     rw[List.drop_of_length_le (by omega),drn,KO] at hd;rw[← hd] at hp;have ae:i+1≤l.length∧c≤T.length∧T.length≤i+1∧(left++T.take c).length≤i+1∧psL room (left++T.take c) (T.drop c) (l.drop (i+1))=psL room [] [] l∧(left++T.take c).length+(T.length-c)≤i+1:=⟨by omega,by omega,by omega,by omega,hp,by omega⟩
     generalize an:left++T.take c=LL at *;obtain⟨u,rfl⟩:∃ u,c=u+1:=⟨c-1,by omega⟩
     have aa:T.length-(u+1)=0:=by omega
     simp +contextual -implicitDefEqProofs (maxSteps:=10^7) only[go_sem,seval,↓gZ,QJ,aa,hw];refine ih (i+1,LL,T,u+1,am) _ ae (by simp only;omega) ?_;simp +contextual -implicitDefEqProofs (maxSteps:=10^7) only[go_sem,seval,↓gZ,QJ,ag,aa]
  ·obtain⟨q,rfl⟩:∃ q,k=q+1:=⟨k-1,by omega⟩
   have ax:(S.length-(q+1)+1)*8≤140737488355328∧S.length-(q+1)≤140737488355327:=by omega
   have eT:(S.drop (q+1)).take (S.length-(q+1))=S.drop (q+1):=La (by omega);have eS:(S.drop (q+1)).map Zs++[D.int .i64 x]=(S.drop (q+1)++[x]).map Zs:=by rw[K3];rfl
   obtain⟨am,ag⟩:∃ e:Bool,e=false:=⟨_,rfl⟩
   simp +contextual -implicitDefEqProofs (maxSteps:=10^7) only[go_sem,seval,↓gZ,hx,aw,QJ,ax,eT,eS,a4];generalize QP (S.drop (q+1)++[x])=T at *;refine Vv Xs Ms (st0:=?st3) (α:=Nat) (fun c=>[(6,QJ T c)]) (fun c=>[(1,.row 1 ((left++T.take c).map Zs) true false)]) (fun c=>c≤T.length∧drn room (left++T.take c) (T.drop c)+c=drn room left T) (fun c=>T.length-c) 0 ?hc3 ⟨by omega,by simp⟩ ?h03 ?step3
   case hc3=>simp +contextual -implicitDefEqProofs (maxSteps:=10^7) only[go_sem,seval,↓gZ]<;>exact rfl
   case h03=>simp only[Ls,LI];rfl
   case step3=>
    intro c ⟨hc,hd⟩ aj;have ay:(T.take c).length=c:=by rw[KQ];omega
    have ap:(left++T.take c).length=left.length+c:=by rw[Ko,ay]
    have e3:=U9 (left++T.take c) (by omega);by_cases az:c<T.length
    ·obtain⟨y,hy⟩:=ZW az;have a0:T.drop c=y :: T.drop (c+1):=by
      obtain⟨g1,g2⟩:=Kb.1 hy;rw[Lb g1,g2]
     have a1:(T.drop (c+1)).length+1=T.length-c:=by rw[KM];omega
     have ak:(left++T.take (c+1)).map Zs=(left++T.take c).map Zs++[J y]:=by rw[KD,hy,← KR,K3];rfl
     have ai:left++T.take (c+1)=left++T.take c++[y]:=by rw[KD,hy,KR];rfl
     rw[a0,Zi9,a1,ap] at hd;have al:((left++T.take c).length+1)*8≤140737488355328∧(left++T.take c).length≤140737488355327:=by omega
     by_cases cy:y=((left++T.take c).length:Int)∧inO (left++T.take c)=true
     ·rw[Kw (.inl (by rw[← ap];exact cy))] at hd;obtain⟨ad,aq⟩:=cy;rw[aq] at e3;have ae:c+1≤T.length∧drn room (left++T.take (c+1)) (T.drop (c+1))+(c+1)=drn room left T:=⟨by omega,by rw[ai];omega⟩
      generalize an:left++T.take c=LL at *;cases c with
      | zero=>
       have aa:(0:Int)<(T.length:Int):=by omega
       have ah:(1:Int)≤(T.length:Int):=by omega
       have ab:0<T.length:=by omega
       simp +contextual -implicitDefEqProofs (maxSteps:=10^7) only[go_sem,seval,↓gZ,QJ,aa,ah,ab,hy,ad,e3,al];refine aj (0+1) _ ae (by omega) ?_;simp +contextual -implicitDefEqProofs (maxSteps:=10^7) only[go_sem,seval,↓gZ,QJ,ak,ad]
      | succ u=>
       have aa:(0:Int)<((T.length-(u+1):Nat):Int):=by omega
       have ah:(1:Int)≤((T.length-(u+1):Nat):Int):=by omega
       have ab:0<T.length-(u+1):=by omega
       have ao:T.length-(u+1)-1=T.length-(u+1+1):=by omega
       simp +contextual -implicitDefEqProofs (maxSteps:=10^7) only[go_sem,seval,↓gZ,QJ,aa,ah,ab,ao,hy,ad,e3,al];refine aj (u+1+1) _ ae (by omega) ?_;simp +contextual -implicitDefEqProofs (maxSteps:=10^7) only[go_sem,seval,↓gZ,QJ,ak,ad]
     ·rw[← ap] at hd;by_cases ad:y=((left++T.take c).length:Int)
      ·have aq:inO (left++T.take c)=false:=by
        cases h:inO (left++T.take c) with
        | false=>rfl
        | true=>exact absurd ⟨ad,h⟩ cy
       rw[aq] at e3;by_cases cr:room<T.length-c
       ·rw[Kw (.inr cr)] at hd;have ae:c+1≤T.length∧drn room (left++T.take (c+1)) (T.drop (c+1))+(c+1)=drn room left T:=⟨by omega,by rw[ai];omega⟩
        generalize an:left++T.take c=LL at *;cases c with
        | zero=>
         have aa:(0:Int)<(T.length:Int):=by omega
         have ah:(1:Int)≤(T.length:Int):=by omega
         have ab:0<T.length:=by omega
         have af:¬(T.length:Int)≤(room:Int):=by omega
         simp +contextual -implicitDefEqProofs (maxSteps:=10^7) only[go_sem,seval,↓gZ,QJ,aa,ah,ab,af,hy,ad,e3,al];refine aj (0+1) _ ae (by omega) ?_;simp +contextual -implicitDefEqProofs (maxSteps:=10^7) only[go_sem,seval,↓gZ,QJ,ak,ad]
        | succ u=>
         have aa:(0:Int)<((T.length-(u+1):Nat):Int):=by omega
         have ah:(1:Int)≤((T.length-(u+1):Nat):Int):=by omega
         have ab:0<T.length-(u+1):=by omega
         have af:¬((T.length-(u+1):Nat):Int)≤(room:Int):=by omega
         have ao:T.length-(u+1)-1=T.length-(u+1+1):=by omega
         simp +contextual -implicitDefEqProofs (maxSteps:=10^7) only[go_sem,seval,↓gZ,QJ,aa,ah,ab,af,ao,hy,ad,e3,al];refine aj (u+1+1) _ ae (by omega) ?_;simp +contextual -implicitDefEqProofs (maxSteps:=10^7) only[go_sem,seval,↓gZ,QJ,ak,ad]
       ·rw[Kn (fun h=>h.elim cy cr),KO] at hd;rw[← hd] at hp;have ae:i+1≤l.length∧c≤T.length∧T.length≤i+1∧(left++T.take c).length≤i+1∧psL room (left++T.take c) (T.drop c) (l.drop (i+1))=psL room [] [] l∧(left++T.take c).length+(T.length-c)≤i+1:=⟨by omega,by omega,by omega,by omega,hp,by omega⟩
        generalize an:left++T.take c=LL at *;cases c with
        | zero=>
         have aa:(0:Int)<(T.length:Int):=by omega
         have ab:0<T.length:=by omega
         have af:(T.length:Int)≤(room:Int):=by omega
         simp +contextual -implicitDefEqProofs (maxSteps:=10^7) only[go_sem,seval,↓gZ,QJ,aa,ab,af,hy,ad,e3,hw];refine ih (i+1,LL,T,0,am) _ ae (by simp only;omega) ?_;simp +contextual -implicitDefEqProofs (maxSteps:=10^7) only[go_sem,seval,↓gZ,QJ,ag]
        | succ u=>
         have aa:(0:Int)<((T.length-(u+1):Nat):Int):=by omega
         have ab:0<T.length-(u+1):=by omega
         have af:((T.length-(u+1):Nat):Int)≤(room:Int):=by omega
         simp +contextual -implicitDefEqProofs (maxSteps:=10^7) only[go_sem,seval,↓gZ,QJ,aa,ab,af,hy,ad,e3,hw];refine ih (i+1,LL,T,u+1,am) _ ae (by simp only;omega) ?_;simp +contextual -implicitDefEqProofs (maxSteps:=10^7) only[go_sem,seval,↓gZ,QJ,ag]
      ·by_cases cr:room<T.length-c
       ·rw[Kw (.inr cr)] at hd;have ae:c+1≤T.length∧drn room (left++T.take (c+1)) (T.drop (c+1))+(c+1)=drn room left T:=⟨by omega,by rw[ai];omega⟩
        generalize an:left++T.take c=LL at *;cases c with
        | zero=>
         have aa:(0:Int)<(T.length:Int):=by omega
         have ah:(1:Int)≤(T.length:Int):=by omega
         have ab:0<T.length:=by omega
         have af:¬(T.length:Int)≤(room:Int):=by omega
         simp +contextual -implicitDefEqProofs (maxSteps:=10^7) only[go_sem,seval,↓gZ,QJ,aa,ah,ab,af,hy,ad,al];refine aj (0+1) _ ae (by omega) ?_;simp +contextual -implicitDefEqProofs (maxSteps:=10^7) only[go_sem,seval,↓gZ,QJ,ak,ad]
        | succ u=>
         have aa:(0:Int)<((T.length-(u+1):Nat):Int):=by omega
         have ah:(1:Int)≤((T.length-(u+1):Nat):Int):=by omega
         have ab:0<T.length-(u+1):=by omega
         have af:¬((T.length-(u+1):Nat):Int)≤(room:Int):=by omega
         have ao:T.length-(u+1)-1=T.length-(u+1+1):=by omega
         simp +contextual -implicitDefEqProofs (maxSteps:=10^7) only[go_sem,seval,↓gZ,QJ,aa,ah,ab,af,ao,hy,ad,al];refine aj (u+1+1) _ ae (by omega) ?_;simp +contextual -implicitDefEqProofs (maxSteps:=10^7) only[go_sem,seval,↓gZ,QJ,ak,ad]
       ·rw[Kn (fun h=>h.elim cy cr),KO] at hd;rw[← hd] at hp;have ae:i+1≤l.length∧c≤T.length∧T.length≤i+1∧(left++T.take c).length≤i+1∧psL room (left++T.take c) (T.drop c) (l.drop (i+1))=psL room [] [] l∧(left++T.take c).length+(T.length-c)≤i+1:=⟨by omega,by omega,by omega,by omega,hp,by omega⟩
        generalize an:left++T.take c=LL at *;cases c with
        | zero=>
         have aa:(0:Int)<(T.length:Int):=by omega
         have ab:0<T.length:=by omega
         have af:(T.length:Int)≤(room:Int):=by omega
         simp +contextual -implicitDefEqProofs (maxSteps:=10^7) only[go_sem,seval,↓gZ,QJ,aa,ab,af,hy,ad,hw];refine ih (i+1,LL,T,0,am) _ ae (by simp only;omega) ?_;simp +contextual -implicitDefEqProofs (maxSteps:=10^7) only[go_sem,seval,↓gZ,QJ,ag]
        | succ u=>
         have aa:(0:Int)<((T.length-(u+1):Nat):Int):=by omega
         have ab:0<T.length-(u+1):=by omega
         have af:((T.length-(u+1):Nat):Int)≤(room:Int):=by omega
         simp +contextual -implicitDefEqProofs (maxSteps:=10^7) only[go_sem,seval,↓gZ,QJ,aa,ab,af,hy,ad,hw];refine ih (i+1,LL,T,u+1,am) _ ae (by simp only;omega) ?_;simp +contextual -implicitDefEqProofs (maxSteps:=10^7) only[go_sem,seval,↓gZ,QJ,ag]
    ·have a6:c=T.length:=by omega
     rw[List.drop_of_length_le (by omega),drn,KO] at hd;rw[← hd] at hp;have ae:i+1≤l.length∧c≤T.length∧T.length≤i+1∧(left++T.take c).length≤i+1∧psL room (left++T.take c) (T.drop c) (l.drop (i+1))=psL room [] [] l∧(left++T.take c).length+(T.length-c)≤i+1:=⟨by omega,by omega,by omega,by omega,hp,by omega⟩
     generalize an:left++T.take c=LL at *;obtain⟨u,rfl⟩:∃ u,c=u+1:=⟨c-1,by omega⟩
     have aa:T.length-(u+1)=0:=by omega
     simp +contextual -implicitDefEqProofs (maxSteps:=10^7) only[go_sem,seval,↓gZ,QJ,aa,hw];refine ih (i+1,LL,T,u+1,am) _ ae (by simp only;omega) ?_;simp +contextual -implicitDefEqProofs (maxSteps:=10^7) only[go_sem,seval,↓gZ,QJ,ag,aa]
 ·have:i=l.length:=by omega
  subst this;rw[List.drop_length,psL] at hp;have au:(S.drop k).length=S.length-k:=KM;have ar:left.map Zs++(S.drop k).map Zs=(psL room [] [] l).map Zs:=by rw[← K3,hp]
  have av:(left.length+(S.length-k))*8≤140737488355328∧left.length+(S.length-k)≤140737488355328:=by omega
  cases k with
  | zero=>
   simp only[List.drop_zero,LF] at ar av;simp +contextual -implicitDefEqProofs (maxSteps:=10^7) only[go_sem,seval,↓gZ,QJ,av,ar]
  | succ u=>
   have eT:(S.drop (u+1)).take (S.length-(u+1))=S.drop (u+1):=La (by omega);rw[← au] at av;simp +contextual -implicitDefEqProofs (maxSteps:=10^7) only[go_sem,seval,↓gZ,QJ,av,eT,ar]
end Go.Proofs.Ytighjmleicikhaa
