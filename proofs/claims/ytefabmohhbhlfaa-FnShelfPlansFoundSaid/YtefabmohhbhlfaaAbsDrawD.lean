/- Own text. -/
import Derived.Test.YtefabmohhbhlfaaAbsDrawC
set_option linter.unusedVariables false
set_option linter.unusedSimpArgs false
namespace Go.Abs
open Go
theorem Zpq {hp:Hp} {m:Bool} {x y:AV} (h:Je hp m x=some y):∀ k∈Wu y,k∈Wu x:=by
 intro k hk;have aa:∀ {r:Option D},asD r=some y→False:=fun {r} h=>by
  obtain⟨d,_,h⟩:=Za h;cases h;simp[Wu] at hk
 cases x<;>simp only[Je] at h<;>first | (exact(aa h).elim) | skip
 case d d=>cases h;simp[Wu] at hk
 case nil=>cases m<;>simp only[Zbi] at h<;>(cases h;simp[Wu] at hk)
 case nilp=>cases h;exact hk
 case nili=>cases h;exact hk
 case ptr a b=>cases h;exact hk
 case pim c=>cases h;exact hk
 case clo f c=>cases h;exact hk
 case own id=>
  cases m<;>simp only[Zao] at h
  ·exact(aa h).elim
  ·cases h;simp[Wu] at hk
 case agg cs=>
  cases m<;>simp only[Zap] at h
  ·exact(aa h).elim
  ·split at h
   ·cases h
   ·cases h;simp[Wu] at hk
theorem Zjv {hp:Hp} {m:Nat→Bool}:∀ {xs ys:List AV} (i:Nat),args hp m i xs=some ys→∀ y∈ys,∀ k∈Wu y,∃ x∈xs,k∈Wu x
 | [],ys,i,h,y,hy,k,hk=>by simp only[args] at h;cases h;simp at hy
 | x :: xs,ys,i,h,y,hy,k,hk=>by
  simp only[args] at h;obtain⟨a,h1,h⟩:=Za h;obtain⟨as,h2,h⟩:=Za h;cases h;rcases Kf.1 hy with rfl | hy
  ·exact⟨x,by simp,Zpq h1 k hk⟩
  ·obtain⟨x',h3,h4⟩:=Zjv (i+1) h2 y hy k hk;exact⟨x',by simp[h3],h4⟩
theorem ZgQ {x:AV}:∀ id∈Jh x,id∈Zf x:=by
 intro id h;cases x<;>simp[Jh] at h<;>simp[Zf,h]
theorem ZlR {x:AV}:∀ id∈Zae x,id∈Zo x:=by
 intro id h;cases x<;>simp only[Zae] at h<;>first | exact ZgQ id h | (simp[Jh] at h;done) | skip
 case agg cs=>
  obtain⟨c,h1,h2⟩:=Ks.1 h;exact Ks.2 ⟨c,h1,ZgQ id h2⟩
theorem Zfi:∀ {xs ys:List AV},∀ i∈Xz xs ys,∃ x∈xs,i∈Zo x
 | [],ys,i,h=>by cases ys<;>simp[Xz] at h
 | x :: xs,[],i,h=>by simp[Xz] at h
 | x :: xs,y :: ys,i,h=>by
  have aa:i∈Xz xs ys→∃ x'∈x :: xs,i∈Zo x':=fun h=>by
   obtain⟨x',h1,h2⟩:=Zfi i h;exact⟨x',by simp[h1],h2⟩
  rw[Ze0] at h;rcases Kd.1 h with h | h
  ·cases y<;>simp only[Zod] at h<;>first | (simp at h;done) | exact⟨x,by simp,ZlR i h⟩
  ·exact aa h
theorem Zpr {C:Orc} {m:Nat→Bool} {hp:Hp} {base f:Nat} {ad:List AV} {ce:Zb} (h:Jo C m hp base f ad=some ce) (hm:m 99=false) :
  ce.eff.dels=[]∧(∀ i∈ce.eff.frz,∃ a∈ad,i∈Zo a)∧(∀ i∈ce.gone,∃ o,lkp hp i=some o)∧(∀ k o,(k,o)∈ce.eff.sets→(∃ o,lkp hp k=some o)∧(k∈ce.gone∨∃ a∈ad,k∈Wu a)):=by
 unfold Jo at h;obtain⟨as,h1,h⟩:=Za h;unfold Zaq at h;split at h
 ·rename_i hc;obtain⟨⟨r,out⟩,h2,h⟩:=Za h;unfold W1 at h;split at h
  ·cases h
  split at h
  ·cases h
  ·cases h;obtain⟨_,_,ab⟩:=VY hp (QX hp) (as.flatMap Zo) [] Lm;have aa : ∀ id∈Qv hp (QX hp) (as.flatMap Zo) [],∃ o,lkp hp id=some o:=fun id af=>(ab id af).resolve_left (by simp);refine⟨rfl,fun i hi=>?_,fun i hi=>?_,fun k o hk=>?_⟩
   ·simp only at hi;split at hi
    ·simp at hi
    ·exact Zfi i hi
   ·rw[hm] at hi;exact aa i (Le.1 hi).1
   ·obtain⟨q,o0,h3,_,_⟩:=ZcC _ _ _ _ _ hk;have ae:=Ke h3;refine⟨aa k ae,?_⟩;have:=KK.1 hc.2.2 k ae;simp only[Lg,KM,Kl] at this;rcases this with h4 | h4
    ·exact .inl (by rw[hm];exact Le.2 ⟨ae,h4⟩)
    ·obtain⟨y,h5,h6⟩:=Ks.1 h4;exact .inr (Zjv 0 h1 y h5 k h6)
 ·cases h
theorem Zbb:∀ {l:Hp} {hp:Hp} {k:Nat} {o:Zh},(∃ o',(k,o')∈l)→lkp (Zd hp l) k=some o→(k,o)∈l
 | [],hp,k,o,h,_=>by obtain⟨o',h⟩:=h;simp at h
 | (a,x) :: r,hp,k,o,h,hl=>by
  simp only[Zd] at hl;by_cases h1:∃ o',(k,o')∈r
  ·exact Kt _ (Zbb h1 hl)
  ·rw[Zs r _ k fun o' aa=>h1 ⟨o',aa⟩,ZW] at hl;obtain⟨o',h2⟩:=h;rcases Kf.1 h2 with h2 | h2
   ·cases h2;rw[Ko rfl] at hl;cases hl;exact K9 ..
   ·exact absurd ⟨o',h2⟩ h1
theorem UF:∀ {l:Hp} {hp hp' : Hp} {k:Nat},(∃ o',(k,o')∈l)→lkp (Zd hp l) k=lkp (Zd hp' l) k
 | [],hp,hp',k,h=>by obtain⟨o',h⟩:=h;simp at h
 | (a,x) :: r,hp,hp',k,h=>by
  simp only[Zd];by_cases h1:∃ o',(k,o')∈r
  ·exact UF h1
  ·rw[Zs r _ k fun o' aa=>h1 ⟨o',aa⟩,Zs r _ k fun o' aa=>h1 ⟨o',aa⟩,ZW,ZW];obtain⟨o',h2⟩:=h;rcases Kf.1 h2 with h2 | h2
   ·cases h2;simp
   ·exact absurd ⟨o',h2⟩ h1
theorem Wy:∀ (l:Hp) {hp hp' : Hp} {k:Nat},lkp hp k=lkp hp' k→lkp (Zd hp l) k=lkp (Zd hp' l) k
 | [],hp,hp',k,h=>h
 | (a,x) :: r,hp,hp',k,h=>by
  simp only[Zd];exact Wy r (by rw[ZW,ZW,h])
theorem Zon {ce:Zb} {dX dY:Option Nat} {v:AV} {ax:Hp} {s:Sl×Hp} (hd:WE dX dY=true) (aa:ce.eff.dels=[])
  (h1:∀ k o,(k,o)∈ax→(∀ o',(k,o')∉ce.eff.sets)∧(∀ o',(k,o')∉ce.eff.adds)∧k∉ce.eff.frz) (h2:∀ k o,(k,o)∈ax→QF ce.gone o=o) (hv:kill ce.gone v=v) :
  QV (Zi (ce.on dY s.1 s.2).1 dX v,Zd (ce.on dY s.1 s.2).2 ax) (ce.on dY (Zi s.1 dX v) (Zd s.2 ax)):=by
 refine⟨fun t=>?_,fun k=>?_⟩
 ·show gs (Zi (Zi (Qy ce.gone s.1) dY ce.eff.val) dX v) t=gs (Zi (Qy ce.gone (Zi s.1 dX v)) dY ce.eff.val) t;simp only[Z9,Qj];by_cases hx:dX=some t
  ·have hy:¬dY=some t:=fun e=>by rw[hx,e] at hd;simp[WE] at hd
   simp[hx,hy,hv]
  ·simp[hx]
 ·show lkp (Zd (ce.eff.on (Yx ce.gone s.2)) ax) k=lkp (ce.eff.on (Yx ce.gone (Zd s.2 ax))) k;unfold Eff.on;rw[aa];simp only[ZP];by_cases hk:∃ o,(k,o)∈ax
  ·obtain⟨o,ho⟩:=hk;obtain⟨g1,g2,g3⟩:=h1 k o ho;rw[Zs _ (Zd (Z2 ce.eff.frz (Yx ce.gone (Zd s.2 ax))) ce.eff.sets) k g2,Zs _ (Z2 ce.eff.frz (Yx ce.gone (Zd s.2 ax))) k g1];rw[ZU,YD];rw[UF (hp':=s.2) ⟨o,ho⟩];cases hl:lkp (Zd s.2 ax) k with
   | none=>rfl
   | some o' =>
    have:=h2 k o' (Zbb ⟨o,ho⟩ hl);simp[this,g3]
  ·have ab : ∀ o,(k,o)∉ax:=fun o ho=>hk ⟨o,ho⟩;rw[Zs ax _ k ab];refine Wy _ (Wy _ ?_);rw[ZU,ZU,YD,YD,Zs ax _ k ab]
structure Zeo (ce:Zb):Prop where
 gone:ce.gone=[]
 sets:ce.eff.sets=[]
 dels:ce.eff.dels=[]
 frz:ce.eff.frz=[]
theorem ZlS {ce:Zb} (h:Zeo ce) (d:Option Nat) (s:Sl×Hp):ce.on d s.1 s.2=(Zi s.1 d ce.eff.val,Zd s.2 ce.eff.adds):=by
 unfold Zb.on Eff.on;rw[h.gone,h.sets,h.dels,h.frz];rfl
theorem Zng {C:Orc} {M:Zg} {nx i:Nat} {o:CO} {s s' : Sl×Hp} (h:ZA C M nx i false o s=some s') :
  (ZL s.1 o.guard=some false∧s'=(Zi s.1 o.dst (.tup []),s.2)) ∨
  (ZL s.1 o.guard=some true∧∃ ce,Zeo ce∧vop C M s.1 s.2 (nx+64*i) o.op=some ce∧Qr (nx+64*i) (nx+64*i+64) ce.eff.adds=true∧s'=(Zi s.1 o.dst ce.eff.val,Zd s.2 ce.eff.adds)):=by
 unfold ZA at h;obtain⟨b,hw,h⟩:=Za h;cases b with
 | true=>
  simp only[Kk] at h;obtain⟨ce,h1,h2,rfl⟩:=QI h;unfold YB at h1;simp only[Ka,Ki] at h1;unfold UW at h1;obtain⟨c,h3,h1⟩:=Za h1;unfold ZaC at h1;split at h1
  ·rename_i e1 e2 e3 e4;cases h1;have hq:Zeo ce:=⟨e1,e2,e3,e4⟩
   exact .inr ⟨hw,ce,hq,h3,h2,ZlS hq _ s⟩
  ·cases h1
 | false=>
  simp only[Ka,Ki] at h;cases h;exact .inl ⟨hw,rfl⟩
theorem ZbU {C:Orc} {M:Zg} {nx i:Nat} {o:CO} {s:Sl×Hp} {ce:Zb} (hw:ZL s.1 o.guard=some true) (hq:Zeo ce) (hv:vop C M s.1 s.2 (nx+64*i) o.op=some ce) (hk:Qr (nx+64*i) (nx+64*i+64) ce.eff.adds=true) :
  ZA C M nx i false o s=some (Zi s.1 o.dst ce.eff.val,Zd s.2 ce.eff.adds):=by
 unfold ZA;rw[hw,Zc];simp only[Kk];unfold Xu YB;simp only[Ka,Ki];rw[hv];simp only[UW,Zc,hq.gone,hq.sets,hq.dels,hq.frz,ZaC];rw[Ko hk,ZlS hq _ s]
theorem Xp {C:Orc} {M:Zg} {nx i:Nat} {t:Bool} {o:CO} {s:Sl×Hp} (hw:ZL s.1 o.guard=some false):ZA C M nx i t o s=some (Zi s.1 o.dst (.tup []),s.2):=by
 unfold ZA;rw[hw,Zc];rfl
theorem ZbV {sl sl' : Sl} {g:List Nat} {gd:Option (Nat×Bool)} (h:∀ q,gd=some q→gs sl' q.1=kill g (gs sl q.1)):ZL sl' gd=ZL sl gd:=by
 cases gd with
 | none=>rfl
 | some q=>
  simp only[ZL,h q rfl];cases gs sl q.1 with
  | d x=>rfl
  | tup vs=>cases vs<;>rfl
  | ptr a b=>simp only[kill,ZF,ZT];split<;>rfl
  | prow a b c d=>simp only[kill,ZF,ZT];split<;>rfl
  | own a=>simp only[kill,ZF,ZT];split<;>rfl
  | ownv a b c=>simp only[kill,ZF,ZT];split<;>rfl
  | bnil a b=>simp only[kill,ZF,ZT];split<;>rfl
  | _=>rfl
end Go.Abs
