/- Own text. -/
import Derived.Test.YtnachaiejoflhaaAbsDrawC
set_option linter.unusedVariables false
set_option linter.unusedSimpArgs false
namespace Go.Abs
open Go
theorem Zn3 {hp:Hp} {m:Bool} {x y:AV} (h:Ur hp m x=some y):∀ k∈VE y,k∈VE x:=by
 intro k hk;have aa:∀ {r:Option D},asD r=some y→False:=fun {r} h=>by
  obtain⟨d,_,h⟩:=Za h;cases h;simp[VE] at hk
 cases x<;>simp only[Ur] at h<;>first | (exact(aa h).elim) | skip
 case d d=>cases h;simp[VE] at hk
 case nil=>cases m<;>simp only[ZaC] at h<;>(cases h;simp[VE] at hk)
 case nilp=>cases h;exact hk
 case nili=>cases h;exact hk
 case ptr a b=>cases h;exact hk
 case pim c=>cases h;exact hk
 case clo f c=>cases h;exact hk
 case own id=>
  cases m<;>simp only[JD] at h
  ·exact(aa h).elim
  ·cases h;simp[VE] at hk
 case agg cs=>
  cases m<;>simp only[JE] at h
  ·exact(aa h).elim
  ·split at h
   ·cases h
   ·cases h;simp[VE] at hk
theorem Zig {hp:Hp} {m:Nat→Bool}:∀ {xs ys:List AV} (i:Nat),args hp m i xs=some ys→∀ y∈ys,∀ k∈VE y,∃ x∈xs,k∈VE x
 | [],ys,i,h,y,hy,k,hk=>by simp only[args] at h;cases h;simp at hy
 | x :: xs,ys,i,h,y,hy,k,hk=>by
  simp only[args] at h;obtain⟨a,h1,h⟩:=Za h;obtain⟨as,h2,h⟩:=Za h;cases h;rcases Kf.1 hy with rfl | hy
  ·exact⟨x,by simp,Zn3 h1 k hk⟩
  ·obtain⟨x',h3,h4⟩:=Zig (i+1) h2 y hy k hk;exact⟨x',by simp[h3],h4⟩
theorem ZfV {x:AV}:∀ id∈Us x,id∈Ze x:=by
 intro id h;cases x<;>simp[Us] at h<;>simp[Ze,h]
theorem ZkG {x:AV}:∀ id∈Js x,id∈Zl x:=by
 intro id h;cases x<;>simp only[Js] at h<;>first | exact ZfV id h | (simp[Us] at h;done) | skip
 case agg cs=>
  obtain⟨c,h1,h2⟩:=Kl.1 h;exact Kl.2 ⟨c,h1,ZfV id h2⟩
theorem Zev:∀ {xs ys:List AV},∀ i∈Xi xs ys,∃ x∈xs,i∈Zl x
 | [],ys,i,h=>by cases ys<;>simp[Xi] at h
 | x :: xs,[],i,h=>by simp[Xi] at h
 | x :: xs,y :: ys,i,h=>by
  have aa:i∈Xi xs ys→∃ x'∈x :: xs,i∈Zl x':=fun h=>by
   obtain⟨x',h1,h2⟩:=Zev i h;exact⟨x',by simp[h1],h2⟩
  rw[Zed] at h;rcases Kc.1 h with h | h
  ·cases y<;>simp only[ZmZ] at h<;>first | (simp at h;done) | exact⟨x,by simp,ZkG i h⟩
  ·exact aa h
theorem Zn4 {C:Orc} {m:Nat→Bool} {hp:Hp} {base f:Nat} {ad:List AV} {ce:Zb} (h:Uy C m hp base f ad=some ce) (hm:m 99=false) :
  ce.eff.dels=[]∧(∀ i∈ce.eff.frz,∃ a∈ad,i∈Zl a)∧(∀ i∈ce.gone,∃ o,lkp hp i=some o)∧(∀ k o,(k,o)∈ce.eff.sets→(∃ o,lkp hp k=some o)∧(k∈ce.gone∨∃ a∈ad,k∈VE a)):=by
 unfold Uy at h;obtain⟨as,h1,h⟩:=Za h;unfold JF at h;split at h
 ·rename_i hc;obtain⟨⟨r,out⟩,h2,h⟩:=Za h;unfold Wb at h;split at h
  ·cases h
  split at h
  ·cases h
  ·cases h;obtain⟨_,_,ab⟩:=Vf hp (QT hp) (as.flatMap Zl) [] Lc;have aa : ∀ id∈Qq hp (QT hp) (as.flatMap Zl) [],∃ o,lkp hp id=some o:=fun id af=>(ab id af).resolve_left (by simp);refine⟨rfl,fun i hi=>?_,fun i hi=>?_,fun k o hk=>?_⟩
   ·simp only at hi;split at hi
    ·simp at hi
    ·exact Zev i hi
   ·rw[hm] at hi;exact aa i (Le.1 hi).1
   ·obtain⟨q,o0,h3,_,_⟩:=ZbY _ _ _ _ _ hk;have ae:=Ki h3;refine⟨aa k ae,?_⟩;have:=Ku.1 hc.2.2 k ae;simp only[Lf,KD,Kr] at this;rcases this with h4 | h4
    ·exact .inl (by rw[hm];exact Le.2 ⟨ae,h4⟩)
    ·obtain⟨y,h5,h6⟩:=Kl.1 h4;exact .inr (Zig 0 h1 y h5 k h6)
 ·cases h
theorem Zav:∀ {l:Hp} {hp:Hp} {k:Nat} {o:Zg},(∃ o',(k,o')∈l)→lkp (Zd hp l) k=some o→(k,o)∈l
 | [],hp,k,o,h,_=>by obtain⟨o',h⟩:=h;simp at h
 | (a,x) :: r,hp,k,o,h,hl=>by
  simp only[Zd] at hl;by_cases h1:∃ o',(k,o')∈r
  ·exact Kn _ (Zav h1 hl)
  ·rw[Zp r _ k fun o' aa=>h1 ⟨o',aa⟩,ZZ] at hl;obtain⟨o',h2⟩:=h;rcases Kf.1 h2 with h2 | h2
   ·cases h2;rw[Ko rfl] at hl;cases hl;exact KV ..
   ·exact absurd ⟨o',h2⟩ h1
theorem WU:∀ {l:Hp} {hp hp' : Hp} {k:Nat},(∃ o',(k,o')∈l)→lkp (Zd hp l) k=lkp (Zd hp' l) k
 | [],hp,hp',k,h=>by obtain⟨o',h⟩:=h;simp at h
 | (a,x) :: r,hp,hp',k,h=>by
  simp only[Zd];by_cases h1:∃ o',(k,o')∈r
  ·exact WU h1
  ·rw[Zp r _ k fun o' aa=>h1 ⟨o',aa⟩,Zp r _ k fun o' aa=>h1 ⟨o',aa⟩,ZZ,ZZ];obtain⟨o',h2⟩:=h;rcases Kf.1 h2 with h2 | h2
   ·cases h2;simp
   ·exact absurd ⟨o',h2⟩ h1
theorem VM:∀ (l:Hp) {hp hp' : Hp} {k:Nat},lkp hp k=lkp hp' k→lkp (Zd hp l) k=lkp (Zd hp' l) k
 | [],hp,hp',k,h=>h
 | (a,x) :: r,hp,hp',k,h=>by
  simp only[Zd];exact VM r (by rw[ZZ,ZZ,h])
theorem Zm8 {ce:Zb} {dX dY:Option Nat} {v:AV} {ax:Hp} {s:Sl×Hp} (hd:VS dX dY=true) (aa:ce.eff.dels=[])
  (h1:∀ k o,(k,o)∈ax→(∀ o',(k,o')∉ce.eff.sets)∧(∀ o',(k,o')∉ce.eff.adds)∧k∉ce.eff.frz) (h2:∀ k o,(k,o)∈ax→QC ce.gone o=o) (hv:kill ce.gone v=v) :
  QQ (Zh (ce.on dY s.1 s.2).1 dX v,Zd (ce.on dY s.1 s.2).2 ax) (ce.on dY (Zh s.1 dX v) (Zd s.2 ax)):=by
 refine⟨fun t=>?_,fun k=>?_⟩
 ·show gs (Zh (Zh (Qv ce.gone s.1) dY ce.eff.val) dX v) t=gs (Zh (Qv ce.gone (Zh s.1 dX v)) dY ce.eff.val) t;simp only[Z2,Qg];by_cases hx:dX=some t
  ·have hy:¬dY=some t:=fun e=>by rw[hx,e] at hd;simp[VS] at hd
   simp[hx,hy,hv]
  ·simp[hx]
 ·show lkp (Zd (ce.eff.on (X2 ce.gone s.2)) ax) k=lkp (ce.eff.on (X2 ce.gone (Zd s.2 ax))) k;unfold Eff.on;rw[aa];simp only[ZN];by_cases hk:∃ o,(k,o)∈ax
  ·obtain⟨o,ho⟩:=hk;obtain⟨g1,g2,g3⟩:=h1 k o ho;rw[Zp _ (Zd (ZQ ce.eff.frz (X2 ce.gone (Zd s.2 ax))) ce.eff.sets) k g2,Zp _ (ZQ ce.eff.frz (X2 ce.gone (Zd s.2 ax))) k g1];rw[ZL,X7];rw[WU (hp':=s.2) ⟨o,ho⟩];cases hl:lkp (Zd s.2 ax) k with
   | none=>rfl
   | some o' =>
    have:=h2 k o' (Zav ⟨o,ho⟩ hl);simp[this,g3]
  ·have ab : ∀ o,(k,o)∉ax:=fun o ho=>hk ⟨o,ho⟩;rw[Zp ax _ k ab];refine VM _ (VM _ ?_);rw[ZL,ZL,X7,X7,Zp ax _ k ab]
structure ZdD (ce:Zb):Prop where
 gone:ce.gone=[]
 sets:ce.eff.sets=[]
 dels:ce.eff.dels=[]
 frz:ce.eff.frz=[]
theorem ZkH {ce:Zb} (h:ZdD ce) (d:Option Nat) (s:Sl×Hp):ce.on d s.1 s.2=(Zh s.1 d ce.eff.val,Zd s.2 ce.eff.adds):=by
 unfold Zb.on Eff.on;rw[h.gone,h.sets,h.dels,h.frz];rfl
theorem Zl7 {C:Orc} {M:Zf} {nx i:Nat} {o:CO} {s s' : Sl×Hp} (h:Zu C M nx i false o s=some s') :
  (ZD s.1 o.guard=some false∧s'=(Zh s.1 o.dst (.tup []),s.2)) ∨
  (ZD s.1 o.guard=some true∧∃ ce,ZdD ce∧vop C M s.1 s.2 (nx+64*i) o.op=some ce∧Qn (nx+64*i) (nx+64*i+64) ce.eff.adds=true∧s'=(Zh s.1 o.dst ce.eff.val,Zd s.2 ce.eff.adds)):=by
 unfold Zu at h;obtain⟨b,hw,h⟩:=Za h;cases b with
 | true=>
  simp only[Kh] at h;obtain⟨ce,h1,h2,rfl⟩:=QF h;unfold X4 at h1;simp only[Ka,Kg] at h1;unfold Uc at h1;obtain⟨c,h3,h1⟩:=Za h1;unfold JS at h1;split at h1
  ·rename_i e1 e2 e3 e4;cases h1;have hq:ZdD ce:=⟨e1,e2,e3,e4⟩
   exact .inr ⟨hw,ce,hq,h3,h2,ZkH hq _ s⟩
  ·cases h1
 | false=>
  simp only[Ka,Kg] at h;cases h;exact .inl ⟨hw,rfl⟩
theorem Zbc {C:Orc} {M:Zf} {nx i:Nat} {o:CO} {s:Sl×Hp} {ce:Zb} (hw:ZD s.1 o.guard=some true) (hq:ZdD ce) (hv:vop C M s.1 s.2 (nx+64*i) o.op=some ce) (hk:Qn (nx+64*i) (nx+64*i+64) ce.eff.adds=true) :
  Zu C M nx i false o s=some (Zh s.1 o.dst ce.eff.val,Zd s.2 ce.eff.adds):=by
 unfold Zu;rw[hw,Zc];simp only[Kh];unfold Xd X4;simp only[Ka,Kg];rw[hv];simp only[Uc,Zc,hq.gone,hq.sets,hq.dels,hq.frz,JS];rw[Ko hk,ZkH hq _ s]
theorem Xb {C:Orc} {M:Zf} {nx i:Nat} {t:Bool} {o:CO} {s:Sl×Hp} (hw:ZD s.1 o.guard=some false):Zu C M nx i t o s=some (Zh s.1 o.dst (.tup []),s.2):=by
 unfold Zu;rw[hw,Zc];rfl
theorem Zbd {sl sl' : Sl} {g:List Nat} {gd:Option (Nat×Bool)} (h:∀ q,gd=some q→gs sl' q.1=kill g (gs sl q.1)):ZD sl' gd=ZD sl gd:=by
 cases gd with
 | none=>rfl
 | some q=>
  simp only[ZD,h q rfl];cases gs sl q.1 with
  | d x=>rfl
  | tup vs=>cases vs<;>rfl
  | ptr a b=>simp only[kill,Zw,ZK];split<;>rfl
  | prow a b c d=>simp only[kill,Zw,ZK];split<;>rfl
  | own a=>simp only[kill,Zw,ZK];split<;>rfl
  | ownv a b c=>simp only[kill,Zw,ZK];split<;>rfl
  | bnil a b=>simp only[kill,Zw,ZK];split<;>rfl
  | _=>rfl
end Go.Abs
