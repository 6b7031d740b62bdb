/- Own text. -/
import Derived.Test.YtighjmleicikhaaAbsPrim
import Derived.Test.YtighjmleicikhaaAbsLib
set_option linter.unusedSimpArgs false
set_option linter.unusedVariables false
namespace Go.Abs
open Go Go.Abs.E Go.Abs.L
theorem ZgV {P:Program} {f:FuncId} {as:List AV} {h:List Zg} {s n:Nat} {ys zs:List D} (hh:h.length≤1) (hz:ys.take n=zs) (hs:ZdV P f as h (.ownv 1 0 n) [.gone,.row s ys true false]) :
  ZdV P f as h (.own 1) [.gone,.row s zs true false]:=by
 subst hz;refine⟨hs.1,fun F A I Γ args w hp=>(hs.2 F A I Γ args w hp).mono fun e w' ⟨v,I',Γ',he,hb⟩=>?_⟩;obtain⟨a0,m,c,sz,a,h1,h2,h3,h4,h5,_⟩:=hb.res;obtain⟨a1,m1,c1,h6,h7⟩:=hb.objs 1 (.row s ys true false) rfl;rw[h1] at h6;cases h6;have h5:=h5 rfl;subst h5;have af:∀ i,i≠1→(fun i=>if i=1 then some (Ref.row a n c s) else Γ' i) i=Γ' i:=fun i hi=>by simp[hi]
 have aa:∀ i,Zk ((fun i=>if i=1 then some (Ref.row a n c s) else Γ' i) i)=Zk (Γ' i):=fun i=>by
  by_cases hi:i=1
  ·subst hi;simp only[Ki,h1];cases a<;>rfl
  ·rw[af i hi]
 have hl:∀ i o,lkp (XP 0 [Zg.gone,.row s (ys.take n) true false]) i=some o→∃ o',lkp (XP 0 [Zg.gone,.row s ys true false]) i=some o' ∧
   (∀ b,Blk (fun i=>if i=1 then some (Ref.row a n c s) else Γ' i) w' i o b→Blk Γ' w' i o' b)∧(i≠1→o'=o)∧(i=1→o=.row s (ys.take n) true false):=by
  intro i o ho;simp only[XP,KW,KX,lkp] at ho ⊢;by_cases hi:i=1
  ·subst hi;simp at ho;subst ho;refine⟨.row s ys true false,by simp,fun b hB=>?_,fun h=>absurd rfl h,fun _=>rfl⟩;rcases hB with hB | hB
   ·exact .inl (by rw[ZmU] at hB ⊢;rw[← hB];exact(aa 1).symm)
   ·exact hB.elim False.elim False.elim
  ·have ab : ¬0+1=i:=fun e=>hi (by omega);simp only[Kn ab] at ho ⊢;split at ho
   ·rename_i h0;simp only[Kw h0];cases ho;refine⟨_,rfl,fun b hB=>?_,fun _=>rfl,fun h=>absurd h hi⟩;exact hB.isGone.elim
   ·cases ho
 refine⟨v,I',fun i=>if i=1 then some (.row a n c s) else Γ' i,he,{ heads:=fun id b hg=>?_,keeps:=hb.keeps,sub:=hb.sub,fr:=hb.fr,res:=⟨a,n,c,s,by simp,by simpa using h4⟩,objs:=?_,inj:=?_,bound:=hb.bound,names:=fun id ad=>?_ }⟩
 ·have:=hb.heads id b hg;by_cases hi:id=1
  ·subst hi;rw[hp.names 1 hh] at hg;cases hg
  ·simp only[Kn hi];exact this
 ·intro id o ho;obtain⟨o',e1,_,e2,e3⟩:=hl id o ho;by_cases hi:id=1
  ·subst hi;rw[e3 rfl];refine⟨a,n,c,by simp,?_,?_⟩
   ·have:=h7.1;simp;omega
   ·rcases h7.2 with ⟨k1,k2⟩ | ⟨g,q0,cur,e,k1,k2,k3,k4,k5,k6,k7,k8,k9,ae⟩
    ·exact .inl ⟨by omega,k2⟩
    ·refine .inr ⟨g,q0,cur,e,k1,k2,k3,by omega,k5,k6,k7,k8,k9,?_⟩;rw[Qy] at ae ⊢;intro i x hx;rw[KU] at hx;split at hx
     ·exact ae i x hx
     ·cases hx
  ·have:=hb.objs id o' e1;rw[e2 hi] at this;simp only[XP,KW,KX,lkp] at ho;have ab : ¬0+1=id:=fun e=>hi (by omega);simp only[Kn ab] at ho;split at ho
   ·cases ho;obtain⟨r,q1⟩:=this;exact⟨r,by simp only[Kn hi];exact q1⟩
   ·cases ho
 ·intro i j o o' b hi hj ag ah;obtain⟨o1,e1,e2,_⟩:=hl i o hi;obtain⟨o2,e3,e4,_⟩:=hl j o' hj;exact hb.inj i j o1 o2 b e1 e3 (e2 b ag) (e4 b ah)
 ·have:=hb.names id ad;have hi:id≠1:=fun e=>by subst e;simp at ad
  simp only[Kn hi];exact this
open Classical in
noncomputable def Zko (s b:Nat) (z:D):List AV→List Zg→Option (AV×List Zg)
 | [.own 0,.d (.int .i64 i),.d (.int .i64 j)],[.row s' xs true false]=>if s'=s∧0≤i∧j=i+1∧i<xs.length∧uni s xs∧Qn xs∧z.cells.length=s∧z.flat=true then some (.own 1,[.gone,.row s (xs.eraseIdx i.toNat) true false]) else none
 | _,_=>none
def delF (s b:Nat) (z:D):QK:=⟨33,[.tmp 6],.seq (.keep [2,1,0] (.region 1 none [⟨some 6,none,.assign (some s) (.v .nil),false⟩])) (.seq (.keep [2,1,0] (.region 6 none [⟨some 8,none,.move (.t 0),false⟩,⟨some 9,none,.move (.t 1),false⟩,⟨some 10,none,.move (.t 2),false⟩,⟨some 11,none,.move (.t 0),false⟩,⟨some 12,none,.len (.t 11),false⟩,⟨some 13,none,.slice3 s (.t 8) (.t 9) (.t 10) (.t 12),false⟩]))
 (.seq (.seq (.keep [16,2,1,0] (.region 3 none [⟨some 14,none,.move (.t 1),false⟩,⟨some 15,none,.move (.t 2),false⟩,⟨some 16,none,.bin .eql false (.t 14) (.t 15),false⟩])) (.cond (.t 16) (.seq (.keep [6] (.region 2 none [⟨some 17,none,.move (.t 0),false⟩,⟨some 6,none,.assign (some s) (.t 17),false⟩])) .ret) .skip))
 (.seq (.keep [7,2,1,0] (.region 3 none [⟨some 18,none,.move (.t 0),false⟩,⟨some 19,none,.len (.t 18),false⟩,⟨some 7,none,.assign none (.t 19),false⟩]))
 (.seq (.keep [7,0] (.region 8 (some []) [⟨some 20,none,.move (.t 0),false⟩,⟨some 21,none,.move (.t 1),false⟩,⟨some 22,none,.slice s (.t 20) none (some (.t 21)),false⟩,⟨some 23,none,.move (.t 0),false⟩,⟨some 24,none,.move (.t 2),false⟩,⟨some 25,none,.slice s (.t 23) (some (.t 24)) none,false⟩,⟨some 26,none,.append s b false true (.t 22) (.t 25),true⟩,⟨some 0,none,.assign (some s) (.t 26),false⟩]))
 (.seq (.keep [0] (.region 6 none [⟨some 27,none,.move (.t 0),false⟩,⟨some 28,none,.move (.t 0),false⟩,⟨some 29,none,.len (.t 28),false⟩,⟨some 30,none,.move (.t 7),false⟩,⟨some 31,none,.slice s (.t 27) (some (.t 29)) (some (.t 30)),false⟩,⟨none,none,.clear s z (.t 31),false⟩])) (.seq (.keep [6] (.region 2 none [⟨some 32,none,.move (.t 0),false⟩,⟨some 6,none,.assign (some s) (.t 32),false⟩])) .ret))))))⟩
theorem uni_take {s:Nat} {xs:List D} (n:Nat) (h:uni s xs):uni s (xs.take n):=fun y hy=>h y (List.mem_of_mem_take hy)
theorem Zmm {s:Nat} {xs:List D} (n:Nat) (h:uni s xs):uni s (xs.drop n):=fun y hy=>h y (List.mem_of_mem_drop hy)
theorem Znw {xs:List D} (n:Nat) (h:Qn xs):Qn (xs.take n):=fun y hy=>h y (List.mem_of_mem_take hy)
theorem ZgW {xs:List D} (n:Nat) (h:Qn xs):Qn (xs.drop n):=fun y hy=>h y (List.mem_of_mem_drop hy)
theorem Zmn {f:Nat} {s b:Nat} {z:D} {M:Zf} {X:Fns} (hX:X f=some (.text (delF s b z))) {xs:List D} {i:Nat} (hi:i<xs.length) (hu:uni s xs) (hf:Qn xs) (hz:z.cells.length=s) (aa:z.flat=true) :
  ∃ r,Zu X M f [.own 0,.d (.int .i64 (i:Int)),.d (.int .i64 ((i:Int)+1))] [.row s xs true false]=some r∧∃ ys,r=(.ownv 1 0 (xs.length-1),[.gone,.row s ys true false])∧ys.take (xs.length-1)=xs.eraseIdx i:=by
 have h1:¬((i:Int)=(i:Int)+1):=by omega
 have h2:(0:Int)≤(i:Int):=by omega
 have h3:(i:Int)≤(i:Int)+1:=by omega
 have h4:(i:Int)+1≤(xs.length:Int):=by omega
 have h5:(0:Int)≤(i:Int)+1:=by omega
 have h6:(i:Int)≤(xs.length:Int):=by omega
 refine ZmD X M (delF s b z) hX (by show 3≤33;decide) ?_;have q1:(List.take i xs).length=i:=by simp;omega
 have q2:(List.drop (i+1) xs).length=xs.length-(i+1):=by simp
 have c1:((i:Int)+1).toNat=i+1:=by omega
 have t1:List.take (xs.length-(i+1)) (List.drop (i+1) xs)=List.drop (i+1) xs:=La (by simp);have q3:i+(xs.length-(i+1))=xs.length-1:=by omega
 have q5:(List.drop (xs.length-1) xs).length=1:=by simp;omega
 have q6:xs.length-1+1=xs.length:=by omega
 have q7:xs.length-(xs.length-1)=1:=by omega
 have q8:0<xs.length:=by omega
 have q9:xs.length-1≤xs.length:=by omega
 have u1:=Zmm (i+1) hu;have f1:=ZgW (i+1) hf;simp +contextual -implicitDefEqProofs (maxSteps:=10000000) only[delF,go_sem,seval,↓gA,↓gB,↓gC,↓gD,↓gE,↓gF,↓gG,ZjL,h1,h2,h3,h4,h5,h6,c1,Int.toNat_natCast,q1,q2,t1,q3,q5,q6,q7,q8,q9,u1,f1,hz,LF,KO];have e1:(List.take i xs++List.drop (i+1) xs).length=xs.length-1:=by rw[Ko,q1,q2,q3]
 refine⟨_,rfl,?_⟩;rw[List.take_left' e1,KR,List.take_left' e1,List.eraseIdx_eq_take_drop_succ]
theorem delete_ok {P:Program} {f:FuncId} {s b:Nat} {z:D} (hf:∃ fn,P.funcs[f]?=some fn∧(fn.name == "runtime.NumGoroutine")=false∧cFun P fn=some (ZcA (delF s b z))) (hD:∀ C M nt,Z4 P C→Yb P C M nt):Zcr P f (Zko s b z):=by
 intro as h r hs hp;unfold Zko at hp;split at hp
 ·rename_i i j s' xs;split at hp
  ·rename_i hc;obtain⟨c1,c2,c3,c4,c5,c6,c7,c8⟩:=hc;cases hp;subst c1 c3;obtain⟨n,rfl⟩:∃ n:Nat,i=(n:Int):=⟨i.toNat,by omega⟩
   ·let X:Fns:=fun g=>if g=f then some (.text (delF s' b z)) else none
    let M:Zf:=fun _ _=>false
    have hX:Zak P X M:=⟨(fun g cf h=>by
     simp only[X] at h;split at h
     ·rename_i e;cases h;subst e;exact hf
     ·cases h),(fun g p h=>by
     simp only[X] at h;split at h<;>cases h)⟩
    have hS:=Zdn hX (fun C nt hC=>hD C M nt hC);obtain⟨r,h1,ys,rfl,h2⟩:=Zmn (f:=f) (s:=s') (b:=b) (z:=z) (M:=M) (X:=X) (by simp[X]) (xs:=xs) (i:=n) (by omega) c5 c6 c7 c8;rw[Int.toNat_natCast];exact ZgV (by simp) h2 (hS _ _ _ _ _ h1)
  ·cases hp
 ·cases hp
end Go.Abs
