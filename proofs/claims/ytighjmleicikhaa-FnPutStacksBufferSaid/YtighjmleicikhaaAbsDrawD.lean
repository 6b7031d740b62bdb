/- Own text. -/
import Derived.Test.YtighjmleicikhaaAbsDrawC
set_option linter.unusedVariables false
set_option linter.unusedSimpArgs false
namespace Go.Abs
open Go
theorem Zls {hp:Hp} {m:Bool} {x y:AV} (h:WL hp m x=some y):∀ k∈Ve y,k∈Ve x:=by
 intro k hk;have aa:∀ {r:Option D},asD r=some y→False:=fun {r} h=>by
  obtain⟨d,_,h⟩:=Za h;cases h;simp[Ve] at hk
 cases x<;>simp only[WL] at h<;>first | (exact(aa h).elim) | skip
 case d d=>cases h;simp[Ve] at hk
 case nil=>cases m<;>simp only[JA] at h<;>(cases h;simp[Ve] at hk)
 case nilp=>cases h;exact hk
 case nili=>cases h;exact hk
 case ptr a b=>cases h;exact hk
 case pim c=>cases h;exact hk
 case clo f c=>cases h;exact hk
 case own id=>
  cases m<;>simp only[UM] at h
  ·exact(aa h).elim
  ·cases h;simp[Ve] at hk
 case agg cs=>
  cases m<;>simp only[UN] at h
  ·exact(aa h).elim
  ·split at h
   ·cases h
   ·cases h;simp[Ve] at hk
theorem Zgc {hp:Hp} {m:Nat→Bool}:∀ {xs ys:List AV} (i:Nat),args hp m i xs=some ys→∀ y∈ys,∀ k∈Ve y,∃ x∈xs,k∈Ve x
 | [],ys,i,h,y,hy,k,hk=>by simp only[args] at h;cases h;simp at hy
 | x :: xs,ys,i,h,y,hy,k,hk=>by
  simp only[args] at h;obtain⟨a,h1,h⟩:=Za h;obtain⟨as,h2,h⟩:=Za h;cases h;rcases Ke.1 hy with rfl | hy
  ·exact⟨x,by simp,Zls h1 k hk⟩
  ·obtain⟨x',h3,h4⟩:=Zgc (i+1) h2 y hy k hk;exact⟨x',by simp[h3],h4⟩
theorem Zen {x:AV}:∀ id∈WM x,id∈Ze x:=by
 intro id h;cases x<;>simp[WM] at h<;>simp[Ze,h]
theorem Zin {x:AV}:∀ id∈UC x,id∈Zj x:=by
 intro id h;cases x<;>simp only[UC] at h<;>first | exact Zen id h | (simp[WM] at h;done) | skip
 case agg cs=>
  obtain⟨c,h1,h2⟩:=Kk.1 h;exact Kk.2 ⟨c,h1,Zen id h2⟩
theorem Zdb:∀ {xs ys:List AV},∀ i∈Q7 xs ys,∃ x∈xs,i∈Zj x
 | [],ys,i,h=>by cases ys<;>simp[Q7] at h
 | x :: xs,[],i,h=>by simp[Q7] at h
 | x :: xs,y :: ys,i,h=>by
  have aa:i∈Q7 xs ys→∃ x'∈x :: xs,i∈Zj x':=fun h=>by
   obtain⟨x',h1,h2⟩:=Zdb i h;exact⟨x',by simp[h1],h2⟩
  rw[ZcT] at h;rcases Kd.1 h with h | h
  ·cases y<;>simp only[Zkl] at h<;>first | (simp at h;done) | exact⟨x,by simp,Zin i h⟩
  ·exact aa h
theorem Zlt {C:Orc} {m:Nat→Bool} {hp:Hp} {base f:Nat} {ad:List AV} {ce:Zb} (h:WT C m hp base f ad=some ce) (hm:m 99=false) :
  ce.eff.dels=[]∧(∀ i∈ce.eff.frz,∃ a∈ad,i∈Zj a)∧(∀ i∈ce.gone,∃ o,lkp hp i=some o)∧(∀ k o,(k,o)∈ce.eff.sets→(∃ o,lkp hp k=some o)∧(k∈ce.gone∨∃ a∈ad,k∈Ve a)):=by
 unfold WT at h;obtain⟨as,h1,h⟩:=Za h;unfold UO at h;split at h
 ·rename_i hc;obtain⟨⟨r,out⟩,h2,h⟩:=Za h;unfold VG at h;split at h
  ·cases h
  split at h
  ·cases h
  ·cases h;obtain⟨_,_,ab⟩:=YS hp (QH hp) (as.flatMap Zj) [] Le;have aa : ∀ id∈Qh hp (QH hp) (as.flatMap Zj) [],∃ o,lkp hp id=some o:=fun id af=>(ab id af).resolve_left (by simp);refine⟨rfl,fun i hi=>?_,fun i hi=>?_,fun k o hk=>?_⟩
   ·simp only at hi;split at hi
    ·simp at hi
    ·exact Zdb i hi
   ·rw[hm] at hi;exact aa i (List.mem_filter.1 hi).1
   ·obtain⟨q,o0,h3,_,_⟩:=ZaR _ _ _ _ _ hk;have ae:=Kl h3;refine⟨aa k ae,?_⟩;have:=KF.1 hc.2.2 k ae;simp only[Ll,KG,KB] at this;rcases this with h4 | h4
    ·exact .inl (by rw[hm];exact List.mem_filter.2 ⟨ae,h4⟩)
    ·obtain⟨y,h5,h6⟩:=Kk.1 h4;exact .inr (Zgc 0 h1 y h5 k h6)
 ·cases h
theorem Jt:∀ {l:Hp} {hp:Hp} {k:Nat} {o:Zg},(∃ o',(k,o')∈l)→lkp (Zd hp l) k=some o→(k,o)∈l
 | [],hp,k,o,h,_=>by obtain⟨o',h⟩:=h;simp at h
 | (a,x) :: r,hp,k,o,h,hl=>by
  simp only[Zd] at hl;by_cases h1:∃ o',(k,o')∈r
  ·exact Km _ (Jt h1 hl)
  ·rw[Zn r _ k fun o' aa=>h1 ⟨o',aa⟩,ZV] at hl;obtain⟨o',h2⟩:=h;rcases Ke.1 h2 with h2 | h2
   ·cases h2;rw[Kw rfl] at hl;cases hl;exact K0 ..
   ·exact absurd ⟨o',h2⟩ h1
theorem Wk:∀ {l:Hp} {hp hp' : Hp} {k:Nat},(∃ o',(k,o')∈l)→lkp (Zd hp l) k=lkp (Zd hp' l) k
 | [],hp,hp',k,h=>by obtain⟨o',h⟩:=h;simp at h
 | (a,x) :: r,hp,hp',k,h=>by
  simp only[Zd];by_cases h1:∃ o',(k,o')∈r
  ·exact Wk h1
  ·rw[Zn r _ k fun o' aa=>h1 ⟨o',aa⟩,Zn r _ k fun o' aa=>h1 ⟨o',aa⟩,ZV,ZV];obtain⟨o',h2⟩:=h;rcases Ke.1 h2 with h2 | h2
   ·cases h2;simp
   ·exact absurd ⟨o',h2⟩ h1
theorem Vj:∀ (l:Hp) {hp hp' : Hp} {k:Nat},lkp hp k=lkp hp' k→lkp (Zd hp l) k=lkp (Zd hp' l) k
 | [],hp,hp',k,h=>h
 | (a,x) :: r,hp,hp',k,h=>by
  simp only[Zd];exact Vj r (by rw[ZV,ZV,h])
theorem Zku {ce:Zb} {dX dY:Option Nat} {v:AV} {ax:Hp} {s:Sl×Hp} (hd:Vo dX dY=true) (aa:ce.eff.dels=[])
  (h1:∀ k o,(k,o)∈ax→(∀ o',(k,o')∉ce.eff.sets)∧(∀ o',(k,o')∉ce.eff.adds)∧k∉ce.eff.frz) (h2:∀ k o,(k,o)∈ax→Qo ce.gone o=o) (hv:kill ce.gone v=v) :
  QD (Zh (ce.on dY s.1 s.2).1 dX v,Zd (ce.on dY s.1 s.2).2 ax) (ce.on dY (Zh s.1 dX v) (Zd s.2 ax)):=by
 refine⟨fun t=>?_,fun k=>?_⟩
 ·show gs (Zh (Zh (Qj ce.gone s.1) dY ce.eff.val) dX v) t=gs (Zh (Qj ce.gone (Zh s.1 dX v)) dY ce.eff.val) t;simp only[ZX,Z8];by_cases hx:dX=some t
  ·have hy:¬dY=some t:=fun e=>by rw[hx,e] at hd;simp[Vo] at hd
   simp[hx,hy,hv]
  ·simp[hx]
 ·show lkp (Zd (ce.eff.on (XL ce.gone s.2)) ax) k=lkp (ce.eff.on (XL ce.gone (Zd s.2 ax))) k;unfold Eff.on;rw[aa];simp only[ZI];by_cases hk:∃ o,(k,o)∈ax
  ·obtain⟨o,ho⟩:=hk;obtain⟨g1,g2,g3⟩:=h1 k o ho;rw[Zn _ (Zd (ZO ce.eff.frz (XL ce.gone (Zd s.2 ax))) ce.eff.sets) k g2,Zn _ (ZO ce.eff.frz (XL ce.gone (Zd s.2 ax))) k g1];rw[ZL,XR];rw[Wk (hp':=s.2) ⟨o,ho⟩];cases hl:lkp (Zd s.2 ax) k with
   | none=>rfl
   | some o' =>
    have:=h2 k o' (Jt ⟨o,ho⟩ hl);simp[this,g3]
  ·have ab : ∀ o,(k,o)∉ax:=fun o ho=>hk ⟨o,ho⟩;rw[Zn ax _ k ab];refine Vj _ (Vj _ ?_);rw[ZL,ZL,XR,XR,Zn ax _ k ab]
structure Zcj (ce:Zb):Prop where
 gone:ce.gone=[]
 sets:ce.eff.sets=[]
 dels:ce.eff.dels=[]
 frz:ce.eff.frz=[]
theorem Zio {ce:Zb} (h:Zcj ce) (d:Option Nat) (s:Sl×Hp):ce.on d s.1 s.2=(Zh s.1 d ce.eff.val,Zd s.2 ce.eff.adds):=by
 unfold Zb.on Eff.on;rw[h.gone,h.sets,h.dels,h.frz];rfl
theorem Zjv {C:Orc} {M:Zf} {nx i:Nat} {o:CO} {s s' : Sl×Hp} (h:Zt C M nx i false o s=some s') :
  (ZC s.1 o.guard=some false∧s'=(Zh s.1 o.dst (.tup []),s.2)) ∨
  (ZC s.1 o.guard=some true∧∃ ce,Zcj ce∧vop C M s.1 s.2 (nx+64*i) o.op=some ce∧Qf (nx+64*i) (nx+64*i+64) ce.eff.adds=true∧s'=(Zh s.1 o.dst ce.eff.val,Zd s.2 ce.eff.adds)):=by
 unfold Zt at h;obtain⟨b,hw,h⟩:=Za h;cases b with
 | true=>
  simp only[Ki] at h;obtain⟨ce,h1,h2,rfl⟩:=Qu h;unfold XO at h1;simp only[Ka,Kh] at h1;unfold Wz at h1;obtain⟨c,h3,h1⟩:=Za h1;unfold U0 at h1;split at h1
  ·rename_i e1 e2 e3 e4;cases h1;have hq:Zcj ce:=⟨e1,e2,e3,e4⟩
   exact .inr ⟨hw,ce,hq,h3,h2,Zio hq _ s⟩
  ·cases h1
 | false=>
  simp only[Ka,Kh] at h;cases h;exact .inl ⟨hw,rfl⟩
theorem J9 {C:Orc} {M:Zf} {nx i:Nat} {o:CO} {s:Sl×Hp} {ce:Zb} (hw:ZC s.1 o.guard=some true) (hq:Zcj ce) (hv:vop C M s.1 s.2 (nx+64*i) o.op=some ce) (hk:Qf (nx+64*i) (nx+64*i+64) ce.eff.adds=true) :
  Zt C M nx i false o s=some (Zh s.1 o.dst ce.eff.val,Zd s.2 ce.eff.adds):=by
 unfold Zt;rw[hw,Zc];simp only[Ki];unfold Q3 XO;simp only[Ka,Kh];rw[hv];simp only[Wz,Zc,hq.gone,hq.sets,hq.dels,hq.frz,U0];rw[Kw hk,Zio hq _ s]
theorem Q2 {C:Orc} {M:Zf} {nx i:Nat} {t:Bool} {o:CO} {s:Sl×Hp} (hw:ZC s.1 o.guard=some false):Zt C M nx i t o s=some (Zh s.1 o.dst (.tup []),s.2):=by
 unfold Zt;rw[hw,Zc];rfl
theorem Zaa {sl sl' : Sl} {g:List Nat} {gd:Option (Nat×Bool)} (h:∀ q,gd=some q→gs sl' q.1=kill g (gs sl q.1)):ZC sl' gd=ZC sl gd:=by
 cases gd with
 | none=>rfl
 | some q=>
  simp only[ZC,h q rfl];cases gs sl q.1 with
  | d x=>rfl
  | tup vs=>cases vs<;>rfl
  | ptr a b=>simp only[kill,Zv,ZK];split<;>rfl
  | prow a b c d=>simp only[kill,Zv,ZK];split<;>rfl
  | own a=>simp only[kill,Zv,ZK];split<;>rfl
  | ownv a b c=>simp only[kill,Zv,ZK];split<;>rfl
  | bnil a b=>simp only[kill,Zv,ZK];split<;>rfl
  | _=>rfl
end Go.Abs
