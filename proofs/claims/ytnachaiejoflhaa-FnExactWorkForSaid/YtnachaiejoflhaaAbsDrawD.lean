/- Own text. -/
import Derived.Test.YtnachaiejoflhaaAbsDrawC
set_option linter.unusedVariables false
set_option linter.unusedSimpArgs false
namespace Go.Abs
open Go
theorem Zoe {hp:Hp} {m:Bool} {x y:AV} (h:Ut hp m x=some y):∀ k∈VA y,k∈VA x:=by
 intro k hk;have aa:∀ {r:Option D},asD r=some y→False:=fun {r} h=>by
  obtain⟨d,_,h⟩:=Za h;cases h;simp[VA] at hk
 cases x<;>simp only[Ut] at h<;>first | (exact(aa h).elim) | skip
 case d d=>cases h;simp[VA] at hk
 case nil=>cases m<;>simp only[ZaT] at h<;>(cases h;simp[VA] at hk)
 case nilp=>cases h;exact hk
 case nili=>cases h;exact hk
 case ptr a b=>cases h;exact hk
 case pim c=>cases h;exact hk
 case clo f c=>cases h;exact hk
 case own id=>
  cases m<;>simp only[JV] at h
  ·exact(aa h).elim
  ·cases h;simp[VA] at hk
 case agg cs=>
  cases m<;>simp only[JW] at h
  ·exact(aa h).elim
  ·split at h
   ·cases h
   ·cases h;simp[VA] at hk
theorem Ziu {hp:Hp} {m:Nat→Bool}:∀ {xs ys:List AV} (i:Nat),args hp m i xs=some ys→∀ y∈ys,∀ k∈VA y,∃ x∈xs,k∈VA x
 | [],ys,i,h,y,hy,k,hk=>by simp only[args] at h;cases h;simp at hy
 | x :: xs,ys,i,h,y,hy,k,hk=>by
  simp only[args] at h;obtain⟨a,h1,h⟩:=Za h;obtain⟨as,h2,h⟩:=Za h;cases h;rcases Ke.1 hy with rfl | hy
  ·exact⟨x,by simp,Zoe h1 k hk⟩
  ·obtain⟨x',h3,h4⟩:=Ziu (i+1) h2 y hy k hk;exact⟨x',by simp[h3],h4⟩
theorem Zgz {x:AV}:∀ id∈Uy x,id∈Ze x:=by
 intro id h;cases x<;>simp[Uy] at h<;>simp[Ze,h]
theorem Zlf {x:AV}:∀ id∈JK x,id∈Zl x:=by
 intro id h;cases x<;>simp only[JK] at h<;>first | exact Zgz id h | (simp[Uy] at h;done) | skip
 case agg cs=>
  obtain⟨c,h1,h2⟩:=Kj.1 h;exact Kj.2 ⟨c,h1,Zgz id h2⟩
theorem ZeB:∀ {xs ys:List AV},∀ i∈Q8 xs ys,∃ x∈xs,i∈Zl x
 | [],ys,i,h=>by cases ys<;>simp[Q8] at h
 | x :: xs,[],i,h=>by simp[Q8] at h
 | x :: xs,y :: ys,i,h=>by
  have aa:i∈Q8 xs ys→∃ x'∈x :: xs,i∈Zl x':=fun h=>by
   obtain⟨x',h1,h2⟩:=ZeB i h;exact⟨x',by simp[h1],h2⟩
  rw[Zej] at h;rcases Kd.1 h with h | h
  ·cases y<;>simp only[Zm9] at h<;>first | (simp at h;done) | exact⟨x,by simp,Zlf i h⟩
  ·exact aa h
theorem Zof {C:Orc} {m:Nat→Bool} {hp:Hp} {base f:Nat} {ad:List AV} {ce:Zb} (h:UE C m hp base f ad=some ce) (hm:m 99=false) :
  ce.eff.dels=[]∧(∀ i∈ce.eff.frz,∃ a∈ad,i∈Zl a)∧(∀ i∈ce.gone,∃ o,lkp hp i=some o)∧(∀ k o,(k,o)∈ce.eff.sets→(∃ o,lkp hp k=some o)∧(k∈ce.gone∨∃ a∈ad,k∈VA a)):=by
 unfold UE at h;obtain⟨as,h1,h⟩:=Za h;unfold JX at h;split at h
 ·rename_i hc;obtain⟨⟨r,out⟩,h2,h⟩:=Za h;unfold Wj at h;split at h
  ·cases h
  split at h
  ·cases h
  ·cases h;obtain⟨_,_,ab⟩:=Vi hp (QN hp) (as.flatMap Zl) [] K3;have aa : ∀ id∈Qr hp (QN hp) (as.flatMap Zl) [],∃ o,lkp hp id=some o:=fun id af=>(ab id af).resolve_left (by simp);refine⟨rfl,fun i hi=>?_,fun i hi=>?_,fun k o hk=>?_⟩
   ·simp only at hi;split at hi
    ·simp at hi
    ·exact ZeB i hi
   ·rw[hm] at hi;exact aa i (List.mem_filter.1 hi).1
   ·obtain⟨q,o0,h3,_,_⟩:=Zch _ _ _ _ _ hk;have ae:=Kk h3;refine⟨aa k ae,?_⟩;have:=Kr.1 hc.2.2 k ae;simp only[La,KA,Kt] at this;rcases this with h4 | h4
    ·exact .inl (by rw[hm];exact List.mem_filter.2 ⟨ae,h4⟩)
    ·obtain⟨y,h5,h6⟩:=Kj.1 h4;exact .inr (Ziu 0 h1 y h5 k h6)
 ·cases h
theorem ZaM:∀ {l:Hp} {hp:Hp} {k:Nat} {o:Zh},(∃ o',(k,o')∈l)→lkp (Zd hp l) k=some o→(k,o)∈l
 | [],hp,k,o,h,_=>by obtain⟨o',h⟩:=h;simp at h
 | (a,x) :: r,hp,k,o,h,hl=>by
  simp only[Zd] at hl;by_cases h1:∃ o',(k,o')∈r
  ·exact Km _ (ZaM h1 hl)
  ·rw[Zp r _ k fun o' aa=>h1 ⟨o',aa⟩,Z1] at hl;obtain⟨o',h2⟩:=h;rcases Ke.1 h2 with h2 | h2
   ·cases h2;rw[Kw rfl] at hl;cases hl;exact KU ..
   ·exact absurd ⟨o',h2⟩ h1
theorem W8:∀ {l:Hp} {hp hp' : Hp} {k:Nat},(∃ o',(k,o')∈l)→lkp (Zd hp l) k=lkp (Zd hp' l) k
 | [],hp,hp',k,h=>by obtain⟨o',h⟩:=h;simp at h
 | (a,x) :: r,hp,hp',k,h=>by
  simp only[Zd];by_cases h1:∃ o',(k,o')∈r
  ·exact W8 h1
  ·rw[Zp r _ k fun o' aa=>h1 ⟨o',aa⟩,Zp r _ k fun o' aa=>h1 ⟨o',aa⟩,Z1,Z1];obtain⟨o',h2⟩:=h;rcases Ke.1 h2 with h2 | h2
   ·cases h2;simp
   ·exact absurd ⟨o',h2⟩ h1
theorem VQ:∀ (l:Hp) {hp hp' : Hp} {k:Nat},lkp hp k=lkp hp' k→lkp (Zd hp l) k=lkp (Zd hp' l) k
 | [],hp,hp',k,h=>h
 | (a,x) :: r,hp,hp',k,h=>by
  simp only[Zd];exact VQ r (by rw[Z1,Z1,h])
theorem Zni {ce:Zb} {dX dY:Option Nat} {v:AV} {ax:Hp} {s:Sl×Hp} (hd:VX dX dY=true) (aa:ce.eff.dels=[])
  (h1:∀ k o,(k,o)∈ax→(∀ o',(k,o')∉ce.eff.sets)∧(∀ o',(k,o')∉ce.eff.adds)∧k∉ce.eff.frz) (h2:∀ k o,(k,o)∈ax→QA ce.gone o=o) (hv:kill ce.gone v=v) :
  QL (Zi (ce.on dY s.1 s.2).1 dX v,Zd (ce.on dY s.1 s.2).2 ax) (ce.on dY (Zi s.1 dX v) (Zd s.2 ax)):=by
 refine⟨fun t=>?_,fun k=>?_⟩
 ·show gs (Zi (Zi (Qs ce.gone s.1) dY ce.eff.val) dX v) t=gs (Zi (Qs ce.gone (Zi s.1 dX v)) dY ce.eff.val) t;simp only[Z3,Qh];by_cases hx:dX=some t
  ·have hy:¬dY=some t:=fun e=>by rw[hx,e] at hd;simp[VX] at hd
   simp[hx,hy,hv]
  ·simp[hx]
 ·show lkp (Zd (ce.eff.on (XN ce.gone s.2)) ax) k=lkp (ce.eff.on (XN ce.gone (Zd s.2 ax))) k;unfold Eff.on;rw[aa];simp only[ZP];by_cases hk:∃ o,(k,o)∈ax
  ·obtain⟨o,ho⟩:=hk;obtain⟨g1,g2,g3⟩:=h1 k o ho;rw[Zp _ (Zd (ZU ce.eff.frz (XN ce.gone (Zd s.2 ax))) ce.eff.sets) k g2,Zp _ (ZU ce.eff.frz (XN ce.gone (Zd s.2 ax))) k g1];rw[ZO,XX];rw[W8 (hp':=s.2) ⟨o,ho⟩];cases hl:lkp (Zd s.2 ax) k with
   | none=>rfl
   | some o' =>
    have:=h2 k o' (ZaM ⟨o,ho⟩ hl);simp[this,g3]
  ·have ab : ∀ o,(k,o)∉ax:=fun o ho=>hk ⟨o,ho⟩;rw[Zp ax _ k ab];refine VQ _ (VQ _ ?_);rw[ZO,ZO,XX,XX,Zp ax _ k ab]
structure ZdQ (ce:Zb):Prop where
 gone:ce.gone=[]
 sets:ce.eff.sets=[]
 dels:ce.eff.dels=[]
 frz:ce.eff.frz=[]
theorem Zlg {ce:Zb} (h:ZdQ ce) (d:Option Nat) (s:Sl×Hp):ce.on d s.1 s.2=(Zi s.1 d ce.eff.val,Zd s.2 ce.eff.adds):=by
 unfold Zb.on Eff.on;rw[h.gone,h.sets,h.dels,h.frz];rfl
theorem Zmr {C:Orc} {M:Zf} {nx i:Nat} {o:CO} {s s' : Sl×Hp} (h:Zv C M nx i false o s=some s') :
  (ZF s.1 o.guard=some false∧s'=(Zi s.1 o.dst (.tup []),s.2)) ∨
  (ZF s.1 o.guard=some true∧∃ ce,ZdQ ce∧vop C M s.1 s.2 (nx+64*i) o.op=some ce∧Qp (nx+64*i) (nx+64*i+64) ce.eff.adds=true∧s'=(Zi s.1 o.dst ce.eff.val,Zd s.2 ce.eff.adds)):=by
 unfold Zv at h;obtain⟨b,hw,h⟩:=Za h;cases b with
 | true=>
  simp only[Ki] at h;obtain⟨ce,h1,h2,rfl⟩:=QD h;unfold XP at h1;simp only[Ka,Kh] at h1;unfold Uo at h1;obtain⟨c,h3,h1⟩:=Za h1;unfold Zaa at h1;split at h1
  ·rename_i e1 e2 e3 e4;cases h1;have hq:ZdQ ce:=⟨e1,e2,e3,e4⟩
   exact .inr ⟨hw,ce,hq,h3,h2,Zlg hq _ s⟩
  ·cases h1
 | false=>
  simp only[Ka,Kh] at h;cases h;exact .inl ⟨hw,rfl⟩
theorem Zbl {C:Orc} {M:Zf} {nx i:Nat} {o:CO} {s:Sl×Hp} {ce:Zb} (hw:ZF s.1 o.guard=some true) (hq:ZdQ ce) (hv:vop C M s.1 s.2 (nx+64*i) o.op=some ce) (hk:Qp (nx+64*i) (nx+64*i+64) ce.eff.adds=true) :
  Zv C M nx i false o s=some (Zi s.1 o.dst ce.eff.val,Zd s.2 ce.eff.adds):=by
 unfold Zv;rw[hw,Zc];simp only[Ki];unfold Q5 XP;simp only[Ka,Kh];rw[hv];simp only[Uo,Zc,hq.gone,hq.sets,hq.dels,hq.frz,Zaa];rw[Kw hk,Zlg hq _ s]
theorem Q4 {C:Orc} {M:Zf} {nx i:Nat} {t:Bool} {o:CO} {s:Sl×Hp} (hw:ZF s.1 o.guard=some false):Zv C M nx i t o s=some (Zi s.1 o.dst (.tup []),s.2):=by
 unfold Zv;rw[hw,Zc];rfl
theorem Zbm {sl sl' : Sl} {g:List Nat} {gd:Option (Nat×Bool)} (h:∀ q,gd=some q→gs sl' q.1=kill g (gs sl q.1)):ZF sl' gd=ZF sl gd:=by
 cases gd with
 | none=>rfl
 | some q=>
  simp only[ZF,h q rfl];cases gs sl q.1 with
  | d x=>rfl
  | tup vs=>cases vs<;>rfl
  | ptr a b=>simp only[kill,Zy,ZN];split<;>rfl
  | prow a b c d=>simp only[kill,Zy,ZN];split<;>rfl
  | own a=>simp only[kill,Zy,ZN];split<;>rfl
  | ownv a b c=>simp only[kill,Zy,ZN];split<;>rfl
  | bnil a b=>simp only[kill,Zy,ZN];split<;>rfl
  | _=>rfl
end Go.Abs
