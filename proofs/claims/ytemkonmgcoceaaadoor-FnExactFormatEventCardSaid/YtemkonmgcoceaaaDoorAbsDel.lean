/- The abstract semantics: slices.Delete of one element,told by what it does. Own text. -/
import Derived.Test.YtemkonmgcoceaaaDoorAbsNil
import Derived.Test.YtemkonmgcoceaaaDoorAbsEval
import Derived.Test.YtemkonmgcoceaaaDoorAbsLib
set_option linter.unusedVariables false
set_option linter.unusedSimpArgs false
set_option linter.unusedSimpArgs false
namespace Go.Abs
open Go Go.Abs.E
def Xm (P:Program) (f:FuncId) (p:List AV→List Zi→Option (AV×List Zi)):Prop:=
 ∀ as h r hs,p as h=some (r,hs)→Zgg P f as h r hs∧∀ (k:Nat) (cs:List AV),h[k]?=some (Zi.box cs)→∃ cs',hs[k]?=some (Zi.box cs')
open Classical in
noncomputable def Zo2 (s b:Nat):List AV→List Zi→Option (AV×List Zi)
 | [.d (.sl xs)],[]=>if uni s xs∧Qi xs∧xs.length*b≤ZR∧xs.length≤ZR then some (.own 0,[.row s xs true false]) else none
 | _,_=>none
def ZlU (s:Nat):Zp:=.keep [0] (.region 1 none [⟨some 2,none,.assign (some s) (.v .nil),false⟩])
def Zgl (s:Nat):Zp:=.seq (.keep [2] (.region 1 none [⟨some 2,none,.assign (some s) (.v .nil),false⟩])) .ret
def Zgm (s b:Nat):Zp:=.seq (.keep [2] (.region 4 none [⟨some 5,none,.buildSl s [],true⟩,⟨some 6,none,.move (.t 0),false⟩,⟨some 7,none,.append s b false true (.t 5) (.t 6),true⟩,⟨some 2,none,.assign (some s) (.t 7),false⟩])) .ret
theorem Zo3 {X:Fns} {M:Zj} {c:Zp} {st:St} {Q:Ex→St→Prop} (h:W X M c st Q):∃ e st',Qm X M c st=some (e,st')∧Q e st':=by
 unfold W at h
 cases hv:Qm X M c st with
 | none=>rw[hv] at h;exact h.elim
 | some r=>rw[hv] at h;exact⟨r.1,r.2,rfl,h⟩
theorem clone_ok {P:Program} {f:FuncId} {s b:Nat} (hf:Znb P f 8 [.tmp 2] (ZlU s) (Zgl s) (Zgm s b)) (hD:∀ C M nt,Z6 P C→Yb C→Ym P C M nt):Xm P f (Zo2 s b):=by
 intro as h r hs hp
 unfold Zo2 at hp
 split at hp
 ·rename_i xs
  split at hp
  ·rename_i hc
   obtain⟨c1,c2,c3,c4⟩:=hc
   cases hp
   refine⟨?_,fun k cs hk=>by simp at hk⟩
   let X:Fns:=fun _=>none
   let M:Zj:=fun _ _=>false
   have hX:Jj P X M:=⟨(fun f cf h=>by cases h),(fun f p h=>by cases h)⟩
   have hS:=ZaT hX (fun C nt hC hB=>hD C M nt hC hB)
   have hB:=Zc3 hX
   have w0:W X M (ZlU s) { sl:=[(0,.d (.sl xs))],hp:=[],nx:=0,m:=0 } (fun e st=>e=.normal∧st = { sl:=[(0,.d (.sl xs))],hp:=[(0,.row s [] true false)],nx:=64,m:=0 }):=by
    unfold ZlU
    simp +contextual -implicitDefEqProofs (maxSteps:=10000000) only[go_sem,seval,↓gA,↓gB,↓gC,↓gD,↓gE,↓gF,↓gG]
   have w1:∀ b',(b'=true→xs=[])→W X M (.seq (.cond (.t 4) (Zgl s) .skip) (Zgm s b)) { sl:=Zl (Zl [(0,.d (.sl xs))] (some 3) (.d (.sl xs))) (some 4) (.d (.bool b')),hp:=[(0,.row s [] true false)],nx:=64+128,m:=0 } (fun e st=>WU 0 [.tmp 2] (some (e,st))=some (.own 0,[.row s xs true false])):=by
    intro b' hb'
    cases b' with
    | true=>
     have:=hb' rfl
     subst this
     simp +contextual -implicitDefEqProofs (maxSteps:=10000000) only[Zgl,Zgm,go_sem,seval,↓gA,↓gB,↓gC,↓gD,↓gE,↓gF,↓gG]
     rfl
    | false=>
     simp +contextual -implicitDefEqProofs (maxSteps:=10000000) only[Zgl,Zgm,c1,c2,c3,c4,go_sem,seval,↓gA,↓gB,↓gC,↓gD,↓gE,↓gF,↓gG]
     exact⟨fun _=>rfl,fun h=>h ⟨c3,c4⟩⟩
   obtain⟨e0,st0,h0,rfl,rfl⟩:=Zo3 w0
   obtain⟨n0,h0⟩:=V3 X M h0
   have pick:∀ b',(b'=true→xs=[])→∃ n,∀ m,n≤m→WU 0 [.tmp 2] (Zw (Z0 X M m) M m (.seq (.cond (.t 4) (Zgl s) .skip) (Zgm s b)) { sl:=Zl (Zl [(0,.d (.sl xs))] (some 3) (.d (.sl xs))) (some 4) (.d (.bool b')),hp:=[(0,.row s [] true false)],nx:=64+128,m:=0 })=some (.own 0,[.row s xs true false]):=by
    intro b' hb'
    obtain⟨e1,st1,h1,h2⟩:=Zo3 (w1 b' hb')
    obtain⟨n,hn⟩:=V3 X M h1
    exact⟨n,fun m hm=>by rw[hn m hm];exact h2⟩
   obtain⟨nf,hnf⟩:=pick false (by simp)
   by_cases hx:xs=[]
   ·obtain⟨nt,hnt⟩:=pick true fun _=>hx
    have m1:n0≤n0+nf+nt:=by omega
    exact ZiA (hS (n0+nf+nt)) (hB (n0+nf+nt)) hf (hD _ M 8 (hS _) (hB _)) (by omega) (h0 _ m1) rfl rfl fun b' hb'=>by
     cases b' with
     | true=>exact hnt _ (by omega)
     | false=>exact hnf _ (by omega)
   ·have m1:n0≤n0+nf:=by omega
    exact ZiA (hS (n0+nf)) (hB (n0+nf)) hf (hD _ M 8 (hS _) (hB _)) (by omega) (h0 _ m1) rfl rfl fun b' hb'=>by
     cases b' with
     | true=>exact absurd (hb' rfl) hx
     | false=>exact hnf _ (by omega)
  ·cases hp
 ·cases hp
end Go.Abs
set_option linter.unusedSimpArgs false
set_option linter.unusedVariables false
namespace Go.Abs
open Go Go.Abs.E Go.Abs.L
theorem Zjh {P:Program} {f:FuncId} {as:List AV} {h:List Zi} {s0 s n:Nat} {ys zs:List D} (hz:ys.take n=zs) (hs:Zgg P f as h (.ownv 1 0 n) [.row s0 [] true false,.row s ys true false]) :
  Zgg P f as h (.own 1) [.row s0 [] true false,.row s zs true false]:=by
 subst hz
 refine⟨hs.1,fun F A I Γ args w hp=>(hs.2 F A I Γ args w hp).mono fun e w' ⟨v,I',Γ',he,hb⟩=>?_⟩
 obtain⟨a0,m,c,sz,a,h1,h2,h3,h4,h5,_⟩:=hb.res
 obtain⟨a1,m1,c1,h6,h7⟩:=hb.objs 1 (.row s ys true false) rfl
 rw[h1] at h6
 cases h6
 have h5:=h5 rfl
 subst h5
 have hup:∀ i,i≠1→(fun i=>if i=1 then some (Ref.row a n c s) else Γ' i) i=Γ' i:=fun i hi=>by simp[hi]
 have hblk:∀ i,Zq ((fun i=>if i=1 then some (Ref.row a n c s) else Γ' i) i)=Zq (Γ' i):=fun i=>by
  by_cases hi:i=1
  ·subst hi;simp only[if_true,h1]
   cases a<;>rfl
  ·rw[hup i hi]
 have hl:∀ i o,lkp (Yj 0 [Zi.row s0 [] true false,.row s (ys.take n) true false]) i=some o→∃ o',lkp (Yj 0 [Zi.row s0 [] true false,.row s ys true false]) i=some o' ∧
   (∀ b,Blk (fun i=>if i=1 then some (Ref.row a n c s) else Γ' i) w' i o b→Blk Γ' w' i o' b)∧(i≠1→o'=o)∧(i=1→o=.row s (ys.take n) true false):=by
  intro i o ho
  simp only[Yj,List.nil_append,List.cons_append,lkp] at ho ⊢
  by_cases hi:i=1
  ·subst hi
   simp at ho
   subst ho
   refine⟨.row s ys true false,by simp,fun b hB=>?_,fun h=>absurd rfl h,fun _=>rfl⟩
   rcases hB with hB | hB
   ·exact .inl (by rw[← hB];exact(hblk 1).symm)
   ·exact hB.elim False.elim False.elim
  ·have hi' : ¬0+1=i:=fun e=>hi (by omega)
   simp only[if_neg hi'] at ho ⊢
   split at ho
   ·rename_i h0
    simp only[if_pos h0]
    cases ho
    refine⟨_,rfl,fun b hB=>?_,fun _=>rfl,fun h=>absurd h hi⟩
    rcases hB with hB | hB
    ·exact .inl (by rw[← hB];exact(hblk i).symm)
    ·exact hB.elim False.elim False.elim
   ·cases ho
 refine⟨v,I',fun i=>if i=1 then some (.row a n c s) else Γ' i,he,{ boxes:=fun id b hg=>?_,keeps:=hb.keeps,sub:=hb.sub,fr:=hb.fr,res:=⟨a,n,c,s,by simp,by simpa using h4⟩,objs:=?_,inj:=?_,bound:=hb.bound,names:=fun id hid=>?_ }⟩
 ·have:=hb.boxes id b hg
  by_cases hi:id=1
  ·subst hi;rw[h1] at this;cases this
  ·simp only[if_neg hi];exact this
 ·intro id o ho
  obtain⟨o',e1,_,e2,e3⟩:=hl id o ho
  by_cases hi:id=1
  ·subst hi
   rw[e3 rfl]
   refine⟨a,n,c,by simp,?_,?_⟩
   ·have:=h7.1
    simp;omega
   ·rcases h7.2 with ⟨k1,k2⟩ | ⟨g,cur,e,k1,k2,k3,k4,k5,k6,k7,k8,k9,k10⟩
    ·exact .inl ⟨by omega,k2⟩
    ·refine .inr ⟨g,cur,e,k1,k2,k3,by omega,k5,k6,k7,k8,k9,?_⟩
     rw[QZ] at k10 ⊢
     intro i x hx
     rw[List.getElem?_take] at hx
     split at hx
     ·exact k10 i x hx
     ·cases hx
  ·have:=hb.objs id o' e1
   rw[e2 hi] at this
   simp only[Yj,List.nil_append,List.cons_append,lkp] at ho
   have hi' : ¬0+1=id:=fun e=>hi (by omega)
   simp only[if_neg hi'] at ho
   split at ho
   ·cases ho
    obtain⟨a2,n2,c2,q1,q2⟩:=this
    exact⟨a2,n2,c2,by simp only[if_neg hi];exact q1,q2⟩
   ·cases ho
 ·intro i j o o' b hi hj hbi hbj
  obtain⟨o1,e1,e2,_⟩:=hl i o hi
  obtain⟨o2,e3,e4,_⟩:=hl j o' hj
  exact hb.inj i j o1 o2 b e1 e3 (e2 b hbi) (e4 b hbj)
 ·have:=hb.names id hid
  have hi:id≠1:=fun e=>by subst e;simp at hid
  simp only[if_neg hi];exact this
open Classical in
noncomputable def ZmZ (s b:Nat) (z:D):List AV→List Zi→Option (AV×List Zi)
 | [.own 0,.d (.int .i64 i),.d (.int .i64 j)],[.row s' xs true false]=>if s'=s∧0≤i∧j=i+1∧i<xs.length∧uni s xs∧Qi xs∧z.cells.length=s∧z.flat=true then some (.own 1,[.row 0 [] true false,.row s (xs.eraseIdx i.toNat) true false]) else none
 | _,_=>none
def delF (s b:Nat) (z:D):QK:=⟨33,[.tmp 6],.seq (.keep [2,1,0] (.region 1 none [⟨some 6,none,.assign (some s) (.v .nil),false⟩])) (.seq (.keep [2,1,0] (.region 6 none [⟨some 8,none,.move (.t 0),false⟩,⟨some 9,none,.move (.t 1),false⟩,⟨some 10,none,.move (.t 2),false⟩,⟨some 11,none,.move (.t 0),false⟩,⟨some 12,none,.len (.t 11),false⟩,⟨some 13,none,.slice3 s (.t 8) (.t 9) (.t 10) (.t 12),false⟩]))
 (.seq (.seq (.keep [16,2,1,0] (.region 3 none [⟨some 14,none,.move (.t 1),false⟩,⟨some 15,none,.move (.t 2),false⟩,⟨some 16,none,.bin .eql false (.t 14) (.t 15),false⟩])) (.cond (.t 16) (.seq (.keep [6] (.region 2 none [⟨some 17,none,.move (.t 0),false⟩,⟨some 6,none,.assign (some s) (.t 17),false⟩])) .ret) .skip))
 (.seq (.keep [7,2,1,0] (.region 3 none [⟨some 18,none,.move (.t 0),false⟩,⟨some 19,none,.len (.t 18),false⟩,⟨some 7,none,.assign none (.t 19),false⟩]))
 (.seq (.keep [7,0] (.region 8 (some []) [⟨some 20,none,.move (.t 0),false⟩,⟨some 21,none,.move (.t 1),false⟩,⟨some 22,none,.slice s (.t 20) none (some (.t 21)),false⟩,⟨some 23,none,.move (.t 0),false⟩,⟨some 24,none,.move (.t 2),false⟩,⟨some 25,none,.slice s (.t 23) (some (.t 24)) none,false⟩,⟨some 26,none,.append s b false true (.t 22) (.t 25),true⟩,⟨some 0,none,.assign (some s) (.t 26),false⟩]))
 (.seq (.keep [0] (.region 6 none [⟨some 27,none,.move (.t 0),false⟩,⟨some 28,none,.move (.t 0),false⟩,⟨some 29,none,.len (.t 28),false⟩,⟨some 30,none,.move (.t 7),false⟩,⟨some 31,none,.slice s (.t 27) (some (.t 29)) (some (.t 30)),false⟩,⟨none,none,.clear s z (.t 31),false⟩])) (.seq (.keep [6] (.region 2 none [⟨some 32,none,.move (.t 0),false⟩,⟨some 6,none,.assign (some s) (.t 32),false⟩])) .ret))))))⟩
theorem uni_take {s:Nat} {xs:List D} (n:Nat) (h:uni s xs):uni s (xs.take n):=fun y hy=>h y (List.mem_of_mem_take hy)
theorem Zo4 {s:Nat} {xs:List D} (n:Nat) (h:uni s xs):uni s (xs.drop n):=fun y hy=>h y (List.mem_of_mem_drop hy)
theorem Zqf {xs:List D} (n:Nat) (h:Qi xs):Qi (xs.take n):=fun y hy=>h y (List.mem_of_mem_take hy)
theorem Zji {xs:List D} (n:Nat) (h:Qi xs):Qi (xs.drop n):=fun y hy=>h y (List.mem_of_mem_drop hy)
theorem Zo5 {f:Nat} {s b:Nat} {z:D} {M:Zj} {X:Fns} (hX:X f=some (.text (delF s b z))) {xs:List D} {i:Nat} (hi:i<xs.length) (hu:uni s xs) (hf:Qi xs) (hz:z.cells.length=s) (hzf:z.flat=true) :
  ∃ r,Zv X M f [.own 0,.d (.int .i64 (i:Int)),.d (.int .i64 ((i:Int)+1))] [.row s xs true false]=some r∧∃ ys,r=(.ownv 1 0 (xs.length-1),[.row 0 [] true false,.row s ys true false])∧ys.take (xs.length-1)=xs.eraseIdx i:=by
 have h1:¬((i:Int)=(i:Int)+1):=by omega
 have h2:(0:Int)≤(i:Int):=by omega
 have h3:(i:Int)≤(i:Int)+1:=by omega
 have h4:(i:Int)+1≤(xs.length:Int):=by omega
 have h5:(0:Int)≤(i:Int)+1:=by omega
 have h6:(i:Int)≤(xs.length:Int):=by omega
 refine callW X M (delF s b z) hX (by show 3≤33;decide) ?_
 have q1:(List.take i xs).length=i:=by simp;omega
 have q2:(List.drop (i+1) xs).length=xs.length-(i+1):=by simp
 have c1:((i:Int)+1).toNat=i+1:=by omega
 have t1:List.take (xs.length-(i+1)) (List.drop (i+1) xs)=List.drop (i+1) xs:=List.take_of_length_le (by simp)
 have q3:i+(xs.length-(i+1))=xs.length-1:=by omega
 have q5:(List.drop (xs.length-1) xs).length=1:=by simp;omega
 have q6:xs.length-1+1=xs.length:=by omega
 have q7:xs.length-(xs.length-1)=1:=by omega
 have q8:0<xs.length:=by omega
 have q9:xs.length-1≤xs.length:=by omega
 have u1:=Zo4 (i+1) hu
 have f1:=Zji (i+1) hf
 simp +contextual -implicitDefEqProofs (maxSteps:=10000000) only[delF,go_sem,seval,↓gA,↓gB,↓gC,↓gD,↓gE,↓gF,↓gG,Zmt,h1,h2,h3,h4,h5,h6,c1,Int.toNat_natCast,q1,q2,t1,q3,q5,q6,q7,q8,q9,u1,f1,hz,Nat.sub_zero,Nat.zero_add]
 have e1:(List.take i xs++List.drop (i+1) xs).length=xs.length-1:=by rw[List.length_append,q1,q2,q3]
 refine⟨_,rfl,?_⟩
 rw[List.take_left' e1,List.append_assoc,List.take_left' e1,List.eraseIdx_eq_take_drop_succ]
theorem delete_ok {P:Program} {f:FuncId} {s b:Nat} {z:D} (hf:∃ fn,P.funcs[f]?=some fn∧(fn.name == "runtime.NumGoroutine")=false∧cFun P fn=some (ZeD (delF s b z))) (hD:∀ C M nt,Z6 P C→Yb C→Ym P C M nt):Xm P f (ZmZ s b z):=by
 intro as h r hs hp
 unfold ZmZ at hp
 split at hp
 ·rename_i i j s' xs
  split at hp
  ·rename_i hc
   obtain⟨c1,c2,c3,c4,c5,c6,c7,c8⟩:=hc
   cases hp
   subst c1 c3
   obtain⟨n,rfl⟩:∃ n:Nat,i=(n:Int):=⟨i.toNat,by omega⟩
   refine⟨?_,fun k cs hk=>?_⟩
   ·let X:Fns:=fun g=>if g=f then some (.text (delF s' b z)) else none
    let M:Zj:=fun _ _=>false
    have hX:Jj P X M:=⟨(fun g cf h=>by
     simp only[X] at h
     split at h
     ·rename_i e
      cases h
      subst e
      exact hf
     ·cases h),(fun g p h=>by
     simp only[X] at h
     split at h<;>cases h)⟩
    have hS:=Zfo hX (fun C nt hC hB=>hD C M nt hC hB)
    obtain⟨r,h1,ys,rfl,h2⟩:=Zo5 (f:=f) (s:=s') (b:=b) (z:=z) (M:=M) (X:=X) (by simp[X]) (xs:=xs) (i:=n) (by omega) c5 c6 c7 c8
    rw[Int.toNat_natCast]
    exact Zjh h2 (hS _ _ _ _ _ h1)
   ·cases k with
    | zero=>simp at hk
    | succ k=>simp at hk
  ·cases hp
 ·cases hp
end Go.Abs
