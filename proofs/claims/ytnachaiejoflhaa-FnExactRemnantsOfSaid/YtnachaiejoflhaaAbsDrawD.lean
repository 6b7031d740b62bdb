/- Own text. -/
import Derived.Test.YtnachaiejoflhaaAbsDrawC
set_option linter.unusedVariables false
set_option linter.unusedSimpArgs false
namespace Go.Abs
open Go
theorem Zpk {hp:Hp} {m:Bool} {x y:AV} (h:Ja hp m x=some y):∀ k∈Wh y,k∈Wh x:=by
 intro k hk;have aa:∀ {r:Option D},asD r=some y→False:=fun {r} h=>by
  obtain⟨d,_,h⟩:=Za h;cases h;simp[Wh] at hk
 cases x<;>simp only[Ja] at h<;>first | (exact(aa h).elim) | skip
 case d d=>cases h;simp[Wh] at hk
 case nil=>cases m<;>simp only[ZbD] at h<;>(cases h;simp[Wh] at hk)
 case nilp=>cases h;exact hk
 case nili=>cases h;exact hk
 case ptr a b=>cases h;exact hk
 case pim c=>cases h;exact hk
 case clo f c=>cases h;exact hk
 case own id=>
  cases m<;>simp only[Zas] at h
  ·exact(aa h).elim
  ·cases h;simp[Wh] at hk
 case agg cs=>
  cases m<;>simp only[Zat] at h
  ·exact(aa h).elim
  ·split at h
   ·cases h
   ·cases h;simp[Wh] at hk
theorem Zjt {hp:Hp} {m:Nat→Bool}:∀ {xs ys:List AV} (i:Nat),args hp m i xs=some ys→∀ y∈ys,∀ k∈Wh y,∃ x∈xs,k∈Wh x
 | [],ys,i,h,y,hy,k,hk=>by simp only[args] at h;cases h;simp at hy
 | x :: xs,ys,i,h,y,hy,k,hk=>by
  simp only[args] at h;obtain⟨a,h1,h⟩:=Za h;obtain⟨as,h2,h⟩:=Za h;cases h;rcases Ke.1 hy with rfl | hy
  ·exact⟨x,by simp,Zpk h1 k hk⟩
  ·obtain⟨x',h3,h4⟩:=Zjt (i+1) h2 y hy k hk;exact⟨x',by simp[h3],h4⟩
theorem Zg5 {x:AV}:∀ id∈Jb x,id∈Zf x:=by
 intro id h;cases x<;>simp[Jb] at h<;>simp[Zf,h]
theorem ZlM {x:AV}:∀ id∈Zah x,id∈Zn x:=by
 intro id h;cases x<;>simp only[Zah] at h<;>first | exact Zg5 id h | (simp[Jb] at h;done) | skip
 case agg cs=>
  obtain⟨c,h1,h2⟩:=Kk.1 h;exact Kk.2 ⟨c,h1,Zg5 id h2⟩
theorem ZfH:∀ {xs ys:List AV},∀ i∈Xo xs ys,∃ x∈xs,i∈Zn x
 | [],ys,i,h=>by cases ys<;>simp[Xo] at h
 | x :: xs,[],i,h=>by simp[Xo] at h
 | x :: xs,y :: ys,i,h=>by
  have aa:i∈Xo xs ys→∃ x'∈x :: xs,i∈Zn x':=fun h=>by
   obtain⟨x',h1,h2⟩:=ZfH i h;exact⟨x',by simp[h1],h2⟩
  rw[Zfp] at h;rcases Kc.1 h with h | h
  ·cases y<;>simp only[Zog] at h<;>first | (simp at h;done) | exact⟨x,by simp,ZlM i h⟩
  ·exact aa h
theorem Zpl {C:Orc} {m:Nat→Bool} {hp:Hp} {base f:Nat} {ad:List AV} {ce:Zb} (h:Ji C m hp base f ad=some ce) (hm:m 99=false) :
  ce.eff.dels=[]∧(∀ i∈ce.eff.frz,∃ a∈ad,i∈Zn a)∧(∀ i∈ce.gone,∃ o,lkp hp i=some o)∧(∀ k o,(k,o)∈ce.eff.sets→(∃ o,lkp hp k=some o)∧(k∈ce.gone∨∃ a∈ad,k∈Wh a)):=by
 unfold Ji at h;obtain⟨as,h1,h⟩:=Za h;unfold Zau at h;split at h
 ·rename_i hc;obtain⟨⟨r,out⟩,h2,h⟩:=Za h;unfold WP at h;split at h
  ·cases h
  split at h
  ·cases h
  ·cases h;obtain⟨_,_,ab⟩:=VH hp (QZ hp) (as.flatMap Zn) [] K1;have aa : ∀ id∈Qz hp (QZ hp) (as.flatMap Zn) [],∃ o,lkp hp id=some o:=fun id af=>(ab id af).resolve_left (by simp);refine⟨rfl,fun i hi=>?_,fun i hi=>?_,fun k o hk=>?_⟩
   ·simp only at hi;split at hi
    ·simp at hi
    ·exact ZfH i hi
   ·rw[hm] at hi;exact aa i (List.mem_filter.1 hi).1
   ·obtain⟨q,o0,h3,_,_⟩:=Zc5 _ _ _ _ _ hk;have ae:=Kg h3;refine⟨aa k ae,?_⟩;have:=Kw.1 hc.2.2 k ae;simp only[K9,KC,Kn] at this;rcases this with h4 | h4
    ·exact .inl (by rw[hm];exact List.mem_filter.2 ⟨ae,h4⟩)
    ·obtain⟨y,h5,h6⟩:=Kk.1 h4;exact .inr (Zjt 0 h1 y h5 k h6)
 ·cases h
theorem Zbu:∀ {l:Hp} {hp:Hp} {k:Nat} {o:Zj},(∃ o',(k,o')∈l)→lkp (Zd hp l) k=some o→(k,o)∈l
 | [],hp,k,o,h,_=>by obtain⟨o',h⟩:=h;simp at h
 | (a,x) :: r,hp,k,o,h,hl=>by
  simp only[Zd] at hl;by_cases h1:∃ o',(k,o')∈r
  ·exact Km _ (Zbu h1 hl)
  ·rw[Zs r _ k fun o' aa=>h1 ⟨o',aa⟩,Z7] at hl;obtain⟨o',h2⟩:=h;rcases Ke.1 h2 with h2 | h2
   ·cases h2;rw[Kt rfl] at hl;cases hl;exact KS ..
   ·exact absurd ⟨o',h2⟩ h1
theorem Uw:∀ {l:Hp} {hp hp' : Hp} {k:Nat},(∃ o',(k,o')∈l)→lkp (Zd hp l) k=lkp (Zd hp' l) k
 | [],hp,hp',k,h=>by obtain⟨o',h⟩:=h;simp at h
 | (a,x) :: r,hp,hp',k,h=>by
  simp only[Zd];by_cases h1:∃ o',(k,o')∈r
  ·exact Uw h1
  ·rw[Zs r _ k fun o' aa=>h1 ⟨o',aa⟩,Zs r _ k fun o' aa=>h1 ⟨o',aa⟩,Z7,Z7];obtain⟨o',h2⟩:=h;rcases Ke.1 h2 with h2 | h2
   ·cases h2;simp
   ·exact absurd ⟨o',h2⟩ h1
theorem Wn:∀ (l:Hp) {hp hp' : Hp} {k:Nat},lkp hp k=lkp hp' k→lkp (Zd hp l) k=lkp (Zd hp' l) k
 | [],hp,hp',k,h=>h
 | (a,x) :: r,hp,hp',k,h=>by
  simp only[Zd];exact Wn r (by rw[Z7,Z7,h])
theorem Zop {ce:Zb} {dX dY:Option Nat} {v:AV} {ax:Hp} {s:Sl×Hp} (hd:Wv dX dY=true) (aa:ce.eff.dels=[])
  (h1:∀ k o,(k,o)∈ax→(∀ o',(k,o')∉ce.eff.sets)∧(∀ o',(k,o')∉ce.eff.adds)∧k∉ce.eff.frz) (h2:∀ k o,(k,o)∈ax→QH ce.gone o=o) (hv:kill ce.gone v=v) :
  QX (Zk (ce.on dY s.1 s.2).1 dX v,Zd (ce.on dY s.1 s.2).2 ax) (ce.on dY (Zk s.1 dX v) (Zd s.2 ax)):=by
 refine⟨fun t=>?_,fun k=>?_⟩
 ·show gs (Zk (Zk (QA ce.gone s.1) dY ce.eff.val) dX v) t=gs (Zk (QA ce.gone (Zk s.1 dX v)) dY ce.eff.val) t;simp only[Qb,Qq];by_cases hx:dX=some t
  ·have hy:¬dY=some t:=fun e=>by rw[hx,e] at hd;simp[Wv] at hd
   simp[hx,hy,hv]
  ·simp[hx]
 ·show lkp (Zd (ce.eff.on (Yi ce.gone s.2)) ax) k=lkp (ce.eff.on (Yi ce.gone (Zd s.2 ax))) k;unfold Eff.on;rw[aa];simp only[ZU];by_cases hk:∃ o,(k,o)∈ax
  ·obtain⟨o,ho⟩:=hk;obtain⟨g1,g2,g3⟩:=h1 k o ho;rw[Zs _ (Zd (ZZ ce.eff.frz (Yi ce.gone (Zd s.2 ax))) ce.eff.sets) k g2,Zs _ (ZZ ce.eff.frz (Yi ce.gone (Zd s.2 ax))) k g1];rw[ZT,Yn];rw[Uw (hp':=s.2) ⟨o,ho⟩];cases hl:lkp (Zd s.2 ax) k with
   | none=>rfl
   | some o' =>
    have:=h2 k o' (Zbu ⟨o,ho⟩ hl);simp[this,g3]
  ·have ab : ∀ o,(k,o)∉ax:=fun o ho=>hk ⟨o,ho⟩;rw[Zs ax _ k ab];refine Wn _ (Wn _ ?_);rw[ZT,ZT,Yn,Yn,Zs ax _ k ab]
structure ZeK (ce:Zb):Prop where
 gone:ce.gone=[]
 sets:ce.eff.sets=[]
 dels:ce.eff.dels=[]
 frz:ce.eff.frz=[]
theorem ZlN {ce:Zb} (h:ZeK ce) (d:Option Nat) (s:Sl×Hp):ce.on d s.1 s.2=(Zk s.1 d ce.eff.val,Zd s.2 ce.eff.adds):=by
 unfold Zb.on Eff.on;rw[h.gone,h.sets,h.dels,h.frz];rfl
theorem Znq {C:Orc} {M:Zh} {nx i:Nat} {o:CO} {s s' : Sl×Hp} (h:Zz C M nx i false o s=some s') :
  (ZL s.1 o.guard=some false∧s'=(Zk s.1 o.dst (.tup []),s.2)) ∨
  (ZL s.1 o.guard=some true∧∃ ce,ZeK ce∧vop C M s.1 s.2 (nx+64*i) o.op=some ce∧Qy (nx+64*i) (nx+64*i+64) ce.eff.adds=true∧s'=(Zk s.1 o.dst ce.eff.val,Zd s.2 ce.eff.adds)):=by
 unfold Zz at h;obtain⟨b,hw,h⟩:=Za h;cases b with
 | true=>
  simp only[Kj] at h;obtain⟨ce,h1,h2,rfl⟩:=QL h;unfold Yk at h1;simp only[Ka,Ki] at h1;unfold UO at h1;obtain⟨c,h3,h1⟩:=Za h1;unfold ZaI at h1;split at h1
  ·rename_i e1 e2 e3 e4;cases h1;have hq:ZeK ce:=⟨e1,e2,e3,e4⟩
   exact .inr ⟨hw,ce,hq,h3,h2,ZlN hq _ s⟩
  ·cases h1
 | false=>
  simp only[Ka,Ki] at h;cases h;exact .inl ⟨hw,rfl⟩
theorem Zcm {C:Orc} {M:Zh} {nx i:Nat} {o:CO} {s:Sl×Hp} {ce:Zb} (hw:ZL s.1 o.guard=some true) (hq:ZeK ce) (hv:vop C M s.1 s.2 (nx+64*i) o.op=some ce) (hk:Qy (nx+64*i) (nx+64*i+64) ce.eff.adds=true) :
  Zz C M nx i false o s=some (Zk s.1 o.dst ce.eff.val,Zd s.2 ce.eff.adds):=by
 unfold Zz;rw[hw,Zc];simp only[Kj];unfold Xm Yk;simp only[Ka,Ki];rw[hv];simp only[UO,Zc,hq.gone,hq.sets,hq.dels,hq.frz,ZaI];rw[Kt hk,ZlN hq _ s]
theorem Xk {C:Orc} {M:Zh} {nx i:Nat} {t:Bool} {o:CO} {s:Sl×Hp} (hw:ZL s.1 o.guard=some false):Zz C M nx i t o s=some (Zk s.1 o.dst (.tup []),s.2):=by
 unfold Zz;rw[hw,Zc];rfl
theorem Zcn {sl sl' : Sl} {g:List Nat} {gd:Option (Nat×Bool)} (h:∀ q,gd=some q→gs sl' q.1=kill g (gs sl q.1)):ZL sl' gd=ZL sl gd:=by
 cases gd with
 | none=>rfl
 | some q=>
  simp only[ZL,h q rfl];cases gs sl q.1 with
  | d x=>rfl
  | tup vs=>cases vs<;>rfl
  | ptr a b=>simp only[kill,ZD,ZS];split<;>rfl
  | prow a b c d=>simp only[kill,ZD,ZS];split<;>rfl
  | own a=>simp only[kill,ZD,ZS];split<;>rfl
  | ownv a b c=>simp only[kill,ZD,ZS];split<;>rfl
  | bnil a b=>simp only[kill,ZD,ZS];split<;>rfl
  | _=>rfl
end Go.Abs
