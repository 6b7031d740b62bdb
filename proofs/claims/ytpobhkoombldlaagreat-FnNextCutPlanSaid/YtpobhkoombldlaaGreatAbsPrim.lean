/- The abstract semantics: functions told by what they do. Own text. -/
import Derived.Test.YtpobhkoombldlaaGreatAbsNil
import Derived.Test.YtpobhkoombldlaaGreatAbsEval
set_option linter.unusedVariables false
set_option linter.unusedSimpArgs false
set_option linter.unusedSimpArgs false
namespace Go.Abs
open Go Go.Abs.E
def Zhq (P:Program) (f:FuncId) (p:List AV→List Zt→Option (AV×List Zt)):Prop:=
 ∀ as h r hs,p as h=some (r,hs)→Zpq P f as h r hs∧∀ (k:Nat) (cs:List AV),h[k]?=some (Zt.box cs)→∃ cs',hs[k]?=some (Zt.box cs')
open Classical in
noncomputable def Zqc (s b:Nat):List AV→List Zt→Option (AV×List Zt)
 | [.d (.sl xs)],[]=>if uni s xs∧QM xs∧xs.length*b≤ZX∧xs.length≤ZX then some (.own 0,[.row s xs true false]) else none
 | _,_=>none
def Zt7 (s:Nat):Ze:=.keep [0] (.region 1 none [⟨some 2,none,.assign (some s) (.v .nil),false⟩])
def Znq (s:Nat):Ze:=.seq (.keep [2] (.region 1 none [⟨some 2,none,.assign (some s) (.v .nil),false⟩])) .ret
def Znr (s b:Nat):Ze:=.seq (.keep [2] (.region 4 none [⟨some 5,none,.buildSl s [],true⟩,⟨some 6,none,.move (.t 0),false⟩,⟨some 7,none,.append s b false true (.t 5) (.t 6),true⟩,⟨some 2,none,.assign (some s) (.t 7),false⟩])) .ret
theorem ZAg {X:Fns} {M:Zu} {c:Ze} {st:St} {Q:Ex→St→Prop} (h:W X M c st Q):∃ e st',Q3 X M c st=some (e,st')∧Q e st':=by
 unfold W at h
 cases hv:Q3 X M c st with
 | none=>rw[hv] at h;exact h.elim
 | some r=>rw[hv] at h;exact⟨r.1,r.2,rfl,h⟩
theorem Zmq {P:Program} {f:FuncId} {s b:Nat} (hf:ZtZ P f 8 [.tmp 2] (Zt7 s) (Znq s) (Znr s b)) (hD:∀ C M nt,Ql P C→V1 C→Vu P C M nt):Zhq P f (Zqc s b):=by
 intro as h r hs hp
 unfold Zqc at hp
 split at hp
 ·rename_i xs
  split at hp
  ·rename_i hc
   obtain⟨c1,c2,c3,c4⟩:=hc
   cases hp
   refine⟨?_,fun k cs hk=>by simp at hk⟩
   let X:Fns:=fun _=>none
   let M:Zu:=fun _ _=>false
   have hX:ZdN P X M:=⟨(fun f cf h=>by cases h),(fun f p h=>by cases h)⟩
   have hS:=ZiG hX (fun C nt hC hB=>hD C M nt hC hB)
   have hB:=ZlF hX
   have w0:W X M (Zt7 s) { sl:=[(0,.d (.sl xs))],hp:=[],nx:=0,m:=0 } (fun e st=>e=.normal∧st = { sl:=[(0,.d (.sl xs))],hp:=[(0,.row s [] true false)],nx:=64,m:=0 }):=by
    unfold Zt7
    simp +contextual -implicitDefEqProofs (maxSteps:=10000000) only[go_sem,seval,↓gA,↓gB,↓gC,↓gD,↓gE,↓gF,↓gG]
   have w1:∀ b',(b'=true→xs=[])→W X M (.seq (.cond (.t 4) (Znq s) .skip) (Znr s b)) { sl:=Zx (Zx [(0,.d (.sl xs))] (some 3) (.d (.sl xs))) (some 4) (.d (.bool b')),hp:=[(0,.row s [] true false)],nx:=64+128,m:=0 } (fun e st=>ZeX 0 [.tmp 2] (some (e,st))=some (.own 0,[.row s xs true false])):=by
    intro b' hb'
    cases b' with
    | true=>
     have:=hb' rfl
     subst this
     simp +contextual -implicitDefEqProofs (maxSteps:=10000000) only[Znq,Znr,go_sem,seval,↓gA,↓gB,↓gC,↓gD,↓gE,↓gF,↓gG]
     rfl
    | false=>
     simp +contextual -implicitDefEqProofs (maxSteps:=10000000) only[Znq,Znr,c1,c2,c3,c4,go_sem,seval,↓gA,↓gB,↓gC,↓gD,↓gE,↓gF,↓gG]
     exact⟨fun _=>rfl,fun h=>h ⟨c3,c4⟩⟩
   obtain⟨e0,st0,h0,rfl,rfl⟩:=ZAg w0
   obtain⟨n0,h0⟩:=ZbY X M h0
   have pick:∀ b',(b'=true→xs=[])→∃ n,∀ m,n≤m→ZeX 0 [.tmp 2] (ZK (Qu X M m) M m (.seq (.cond (.t 4) (Znq s) .skip) (Znr s b)) { sl:=Zx (Zx [(0,.d (.sl xs))] (some 3) (.d (.sl xs))) (some 4) (.d (.bool b')),hp:=[(0,.row s [] true false)],nx:=64+128,m:=0 })=some (.own 0,[.row s xs true false]):=by
    intro b' hb'
    obtain⟨e1,st1,h1,h2⟩:=ZAg (w1 b' hb')
    obtain⟨n,hn⟩:=ZbY X M h1
    exact⟨n,fun m hm=>by rw[hn m hm];exact h2⟩
   obtain⟨nf,hnf⟩:=pick false (by simp)
   by_cases hx:xs=[]
   ·obtain⟨nt,hnt⟩:=pick true fun _=>hx
    have m1:n0≤n0+nf+nt:=by omega
    exact ZsZ (hS (n0+nf+nt)) (hB (n0+nf+nt)) hf (hD _ M 8 (hS _) (hB _)) (by omega) (h0 _ m1) rfl rfl fun b' hb'=>by
     cases b' with
     | true=>exact hnt _ (by omega)
     | false=>exact hnf _ (by omega)
   ·have m1:n0≤n0+nf:=by omega
    exact ZsZ (hS (n0+nf)) (hB (n0+nf)) hf (hD _ M 8 (hS _) (hB _)) (by omega) (h0 _ m1) rfl rfl fun b' hb'=>by
     cases b' with
     | true=>exact absurd (hb' rfl) hx
     | false=>exact hnf _ (by omega)
  ·cases hp
 ·cases hp
end Go.Abs
