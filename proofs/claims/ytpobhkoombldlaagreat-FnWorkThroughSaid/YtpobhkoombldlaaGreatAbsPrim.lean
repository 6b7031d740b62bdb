/- The abstract semantics: functions told by what they do. Own text. -/
import Derived.Test.YtpobhkoombldlaaGreatAbsNil
import Derived.Test.YtpobhkoombldlaaGreatAbsEval
set_option linter.unusedVariables false
set_option linter.unusedSimpArgs false
set_option linter.unusedSimpArgs false
namespace Go.Abs
open Go Go.Abs.E
def ZmS (P:Program) (f:FuncId) (p:List AV→List Zt→Option (AV×List Zt)):Prop:=
 ∀ as h r hs,p as h=some (r,hs)→Zo5 P f as h r hs∧∀ (k:Nat) (cs:List AV),h[k]?=some (Zt.box cs)→∃ cs',hs[k]?=some (Zt.box cs')
open Classical in
noncomputable def ZpR (s b:Nat):List AV→List Zt→Option (AV×List Zt)
 | [.d (.sl xs)],[]=>if uni s xs∧QM xs∧xs.length*b≤ZZ∧xs.length≤ZZ then some (.own 0,[.row s xs true false]) else none
 | _,_=>none
def ZtV (s:Nat):Ze:=.keep [0] (.region 1 none [⟨some 2,none,.assign (some s) (.v .nil),false⟩])
def ZmT (s:Nat):Ze:=.seq (.keep [2] (.region 1 none [⟨some 2,none,.assign (some s) (.v .nil),false⟩])) .ret
def ZmU (s b:Nat):Ze:=.seq (.keep [2] (.region 4 none [⟨some 5,none,.buildSl s [],true⟩,⟨some 6,none,.move (.t 0),false⟩,⟨some 7,none,.append s b false true (.t 5) (.t 6),true⟩,⟨some 2,none,.assign (some s) (.t 7),false⟩])) .ret
theorem ZAc {X:Fns} {M:Zu} {c:Ze} {st:St} {Q:Ex→St→Prop} (h:W X M c st Q):∃ e st',Q4 X M c st=some (e,st')∧Q e st':=by
 unfold W at h
 cases hv:Q4 X M c st with
 | none=>rw[hv] at h;exact h.elim
 | some r=>rw[hv] at h;exact⟨r.1,r.2,rfl,h⟩
theorem ZvC {P:Program} {f:FuncId} {s b:Nat} (hf:ZtN P f 8 [.tmp 2] (ZtV s) (ZmT s) (ZmU s b)) (hD:∀ C M nt,QH P C→WP C→Ug P C M nt):ZmS P f (ZpR s b):=by
 intro as h r hs hp
 unfold ZpR at hp
 split at hp
 ·rename_i xs
  split at hp
  ·rename_i hc
   obtain⟨c1,c2,c3,c4⟩:=hc
   cases hp
   refine⟨?_,fun k cs hk=>by simp at hk⟩
   let X:Fns:=fun _=>none
   let M:Zu:=fun _ _=>false
   have hX:ZeE P X M:=⟨(fun f cf h=>by cases h),(fun f p h=>by cases h)⟩
   have hS:=Zgs hX (fun C nt hC hB=>hD C M nt hC hB)
   have hB:=ZkT hX
   have w0:W X M (ZtV s) { sl:=[(0,.d (.sl xs))],hp:=[],nx:=0,m:=0 } (fun e st=>e=.normal∧st = { sl:=[(0,.d (.sl xs))],hp:=[(0,.row s [] true false)],nx:=64,m:=0 }):=by
    unfold ZtV
    simp +contextual -implicitDefEqProofs (maxSteps:=10000000) only[go_sem,seval,↓gA,↓gB,↓gC,↓gD,↓gE,↓gF,↓gG]
   have w1:∀ b',(b'=true→xs=[])→W X M (.seq (.cond (.t 4) (ZmT s) .skip) (ZmU s b)) { sl:=Zw (Zw [(0,.d (.sl xs))] (some 3) (.d (.sl xs))) (some 4) (.d (.bool b')),hp:=[(0,.row s [] true false)],nx:=64+128,m:=0 } (fun e st=>Zc0 0 [.tmp 2] (some (e,st))=some (.own 0,[.row s xs true false])):=by
    intro b' hb'
    cases b' with
    | true=>
     have:=hb' rfl
     subst this
     simp +contextual -implicitDefEqProofs (maxSteps:=10000000) only[ZmT,ZmU,go_sem,seval,↓gA,↓gB,↓gC,↓gD,↓gE,↓gF,↓gG]
     rfl
    | false=>
     simp +contextual -implicitDefEqProofs (maxSteps:=10000000) only[ZmT,ZmU,c1,c2,c3,c4,go_sem,seval,↓gA,↓gB,↓gC,↓gD,↓gE,↓gF,↓gG]
     exact⟨fun _=>rfl,fun h=>h ⟨c3,c4⟩⟩
   obtain⟨e0,st0,h0,rfl,rfl⟩:=ZAc w0
   obtain⟨n0,h0⟩:=Za5 X M h0
   have pick:∀ b',(b'=true→xs=[])→∃ n,∀ m,n≤m→Zc0 0 [.tmp 2] (ZM (Qq X M m) M m (.seq (.cond (.t 4) (ZmT s) .skip) (ZmU s b)) { sl:=Zw (Zw [(0,.d (.sl xs))] (some 3) (.d (.sl xs))) (some 4) (.d (.bool b')),hp:=[(0,.row s [] true false)],nx:=64+128,m:=0 })=some (.own 0,[.row s xs true false]):=by
    intro b' hb'
    obtain⟨e1,st1,h1,h2⟩:=ZAc (w1 b' hb')
    obtain⟨n,hn⟩:=Za5 X M h1
    exact⟨n,fun m hm=>by rw[hn m hm];exact h2⟩
   obtain⟨nf,hnf⟩:=pick false (by simp)
   by_cases hx:xs=[]
   ·obtain⟨nt,hnt⟩:=pick true fun _=>hx
    have m1:n0≤n0+nf+nt:=by omega
    exact ZsO (hS (n0+nf+nt)) (hB (n0+nf+nt)) hf (hD _ M 8 (hS _) (hB _)) (by omega) (h0 _ m1) rfl rfl fun b' hb'=>by
     cases b' with
     | true=>exact hnt _ (by omega)
     | false=>exact hnf _ (by omega)
   ·have m1:n0≤n0+nf:=by omega
    exact ZsO (hS (n0+nf)) (hB (n0+nf)) hf (hD _ M 8 (hS _) (hB _)) (by omega) (h0 _ m1) rfl rfl fun b' hb'=>by
     cases b' with
     | true=>exact absurd (hb' rfl) hx
     | false=>exact hnf _ (by omega)
  ·cases hp
 ·cases hp
end Go.Abs
