/- Own text. -/
import Derived.Test.YtefabmohhbhlfaaAbsDrawC
set_option linter.unusedVariables false
set_option linter.unusedSimpArgs false
namespace Go.Abs
open Go
theorem ZnN {hp:Hp} {m:Bool} {x y:AV} (h:UC hp m x=some y):∀ k∈V5 y,k∈V5 x:=by
 intro k hk;have aa:∀ {r:Option D},asD r=some y→False:=fun {r} h=>by
  obtain⟨d,_,h⟩:=Za h;cases h;simp[V5] at hk
 cases x<;>simp only[UC] at h<;>first | (exact(aa h).elim) | skip
 case d d=>cases h;simp[V5] at hk
 case nil=>cases m<;>simp only[ZaE] at h<;>(cases h;simp[V5] at hk)
 case nilp=>cases h;exact hk
 case nili=>cases h;exact hk
 case ptr a b=>cases h;exact hk
 case pim c=>cases h;exact hk
 case clo f c=>cases h;exact hk
 case own id=>
  cases m<;>simp only[JN] at h
  ·exact(aa h).elim
  ·cases h;simp[V5] at hk
 case agg cs=>
  cases m<;>simp only[JO] at h
  ·exact(aa h).elim
  ·split at h
   ·cases h
   ·cases h;simp[V5] at hk
theorem Ziy {hp:Hp} {m:Nat→Bool}:∀ {xs ys:List AV} (i:Nat),args hp m i xs=some ys→∀ y∈ys,∀ k∈V5 y,∃ x∈xs,k∈V5 x
 | [],ys,i,h,y,hy,k,hk=>by simp only[args] at h;cases h;simp at hy
 | x :: xs,ys,i,h,y,hy,k,hk=>by
  simp only[args] at h;obtain⟨a,h1,h⟩:=Za h;obtain⟨as,h2,h⟩:=Za h;cases h;rcases Ke.1 hy with rfl | hy
  ·exact⟨x,by simp,ZnN h1 k hk⟩
  ·obtain⟨x',h3,h4⟩:=Ziy (i+1) h2 y hy k hk;exact⟨x',by simp[h3],h4⟩
theorem Zf1 {x:AV}:∀ id∈UF x,id∈Zf x:=by
 intro id h;cases x<;>simp[UF] at h<;>simp[Zf,h]
theorem ZkJ {x:AV}:∀ id∈JD x,id∈Zm x:=by
 intro id h;cases x<;>simp only[JD] at h<;>first | exact Zf1 id h | (simp[UF] at h;done) | skip
 case agg cs=>
  obtain⟨c,h1,h2⟩:=Kr.1 h;exact Kr.2 ⟨c,h1,Zf1 id h2⟩
theorem ZeB:∀ {xs ys:List AV},∀ i∈Xh xs ys,∃ x∈xs,i∈Zm x
 | [],ys,i,h=>by cases ys<;>simp[Xh] at h
 | x :: xs,[],i,h=>by simp[Xh] at h
 | x :: xs,y :: ys,i,h=>by
  have aa:i∈Xh xs ys→∃ x'∈x :: xs,i∈Zm x':=fun h=>by
   obtain⟨x',h1,h2⟩:=ZeB i h;exact⟨x',by simp[h1],h2⟩
  rw[Zej] at h;rcases Kc.1 h with h | h
  ·cases y<;>simp only[ZmE] at h<;>first | (simp at h;done) | exact⟨x,by simp,ZkJ i h⟩
  ·exact aa h
theorem ZnO {C:Orc} {m:Nat→Bool} {hp:Hp} {base f:Nat} {ad:List AV} {ce:Zb} (h:UM C m hp base f ad=some ce) (hm:m 99=false) :
  ce.eff.dels=[]∧(∀ i∈ce.eff.frz,∃ a∈ad,i∈Zm a)∧(∀ i∈ce.gone,∃ o,lkp hp i=some o)∧(∀ k o,(k,o)∈ce.eff.sets→(∃ o,lkp hp k=some o)∧(k∈ce.gone∨∃ a∈ad,k∈V5 a)):=by
 unfold UM at h;obtain⟨as,h1,h⟩:=Za h;unfold JP at h;split at h
 ·rename_i hc;obtain⟨⟨r,out⟩,h2,h⟩:=Za h;unfold WA at h;split at h
  ·cases h
  split at h
  ·cases h
  ·cases h;obtain⟨_,_,ab⟩:=Vw hp (QT hp) (as.flatMap Zm) [] Lb;have aa : ∀ id∈Qu hp (QT hp) (as.flatMap Zm) [],∃ o,lkp hp id=some o:=fun id af=>(ab id af).resolve_left (by simp);refine⟨rfl,fun i hi=>?_,fun i hi=>?_,fun k o hk=>?_⟩
   ·simp only at hi;split at hi
    ·simp at hi
    ·exact ZeB i hi
   ·rw[hm] at hi;exact aa i (List.mem_filter.1 hi).1
   ·obtain⟨q,o0,h3,_,_⟩:=Zb1 _ _ _ _ _ hk;have ae:=Kg h3;refine⟨aa k ae,?_⟩;have:=KE.1 hc.2.2 k ae;simp only[Ld,KF,Kq] at this;rcases this with h4 | h4
    ·exact .inl (by rw[hm];exact List.mem_filter.2 ⟨ae,h4⟩)
    ·obtain⟨y,h5,h6⟩:=Kr.1 h4;exact .inr (Ziy 0 h1 y h5 k h6)
 ·cases h
theorem Zav:∀ {l:Hp} {hp:Hp} {k:Nat} {o:Zh},(∃ o',(k,o')∈l)→lkp (Zd hp l) k=some o→(k,o)∈l
 | [],hp,k,o,h,_=>by obtain⟨o',h⟩:=h;simp at h
 | (a,x) :: r,hp,k,o,h,hl=>by
  simp only[Zd] at hl;by_cases h1:∃ o',(k,o')∈r
  ·exact Ks _ (Zav h1 hl)
  ·rw[Zq r _ k fun o' aa=>h1 ⟨o',aa⟩,ZS] at hl;obtain⟨o',h2⟩:=h;rcases Ke.1 h2 with h2 | h2
   ·cases h2;rw[Kt rfl] at hl;cases hl;exact K1 ..
   ·exact absurd ⟨o',h2⟩ h1
theorem W7:∀ {l:Hp} {hp hp' : Hp} {k:Nat},(∃ o',(k,o')∈l)→lkp (Zd hp l) k=lkp (Zd hp' l) k
 | [],hp,hp',k,h=>by obtain⟨o',h⟩:=h;simp at h
 | (a,x) :: r,hp,hp',k,h=>by
  simp only[Zd];by_cases h1:∃ o',(k,o')∈r
  ·exact W7 h1
  ·rw[Zq r _ k fun o' aa=>h1 ⟨o',aa⟩,Zq r _ k fun o' aa=>h1 ⟨o',aa⟩,ZS,ZS];obtain⟨o',h2⟩:=h;rcases Ke.1 h2 with h2 | h2
   ·cases h2;simp
   ·exact absurd ⟨o',h2⟩ h1
theorem V8:∀ (l:Hp) {hp hp' : Hp} {k:Nat},lkp hp k=lkp hp' k→lkp (Zd hp l) k=lkp (Zd hp' l) k
 | [],hp,hp',k,h=>h
 | (a,x) :: r,hp,hp',k,h=>by
  simp only[Zd];exact V8 r (by rw[ZS,ZS,h])
theorem ZmO {ce:Zb} {dX dY:Option Nat} {v:AV} {ax:Hp} {s:Sl×Hp} (hd:Wf dX dY=true) (aa:ce.eff.dels=[])
  (h1:∀ k o,(k,o)∈ax→(∀ o',(k,o')∉ce.eff.sets)∧(∀ o',(k,o')∉ce.eff.adds)∧k∉ce.eff.frz) (h2:∀ k o,(k,o)∈ax→QD ce.gone o=o) (hv:kill ce.gone v=v) :
  QQ (Zi (ce.on dY s.1 s.2).1 dX v,Zd (ce.on dY s.1 s.2).2 ax) (ce.on dY (Zi s.1 dX v) (Zd s.2 ax)):=by
 refine⟨fun t=>?_,fun k=>?_⟩
 ·show gs (Zi (Zi (Qx ce.gone s.1) dY ce.eff.val) dX v) t=gs (Zi (Qx ce.gone (Zi s.1 dX v)) dY ce.eff.val) t;simp only[Z5,Qe];by_cases hx:dX=some t
  ·have hy:¬dY=some t:=fun e=>by rw[hx,e] at hd;simp[Wf] at hd
   simp[hx,hy,hv]
  ·simp[hx]
 ·show lkp (Zd (ce.eff.on (Yg ce.gone s.2)) ax) k=lkp (ce.eff.on (Yg ce.gone (Zd s.2 ax))) k;unfold Eff.on;rw[aa];simp only[ZN];by_cases hk:∃ o,(k,o)∈ax
  ·obtain⟨o,ho⟩:=hk;obtain⟨g1,g2,g3⟩:=h1 k o ho;rw[Zq _ (Zd (ZW ce.eff.frz (Yg ce.gone (Zd s.2 ax))) ce.eff.sets) k g2,Zq _ (ZW ce.eff.frz (Yg ce.gone (Zd s.2 ax))) k g1];rw[ZQ,Ym];rw[W7 (hp':=s.2) ⟨o,ho⟩];cases hl:lkp (Zd s.2 ax) k with
   | none=>rfl
   | some o' =>
    have:=h2 k o' (Zav ⟨o,ho⟩ hl);simp[this,g3]
  ·have ab : ∀ o,(k,o)∉ax:=fun o ho=>hk ⟨o,ho⟩;rw[Zq ax _ k ab];refine V8 _ (V8 _ ?_);rw[ZQ,ZQ,Ym,Ym,Zq ax _ k ab]
structure ZdI (ce:Zb):Prop where
 gone:ce.gone=[]
 sets:ce.eff.sets=[]
 dels:ce.eff.dels=[]
 frz:ce.eff.frz=[]
theorem ZkK {ce:Zb} (h:ZdI ce) (d:Option Nat) (s:Sl×Hp):ce.on d s.1 s.2=(Zi s.1 d ce.eff.val,Zd s.2 ce.eff.adds):=by
 unfold Zb.on Eff.on;rw[h.gone,h.sets,h.dels,h.frz];rfl
theorem ZlT {C:Orc} {M:Zg} {nx i:Nat} {o:CO} {s s' : Sl×Hp} (h:ZA C M nx i false o s=some s') :
  (ZK s.1 o.guard=some false∧s'=(Zi s.1 o.dst (.tup []),s.2)) ∨
  (ZK s.1 o.guard=some true∧∃ ce,ZdI ce∧vop C M s.1 s.2 (nx+64*i) o.op=some ce∧Qn (nx+64*i) (nx+64*i+64) ce.eff.adds=true∧s'=(Zi s.1 o.dst ce.eff.val,Zd s.2 ce.eff.adds)):=by
 unfold ZA at h;obtain⟨b,hw,h⟩:=Za h;cases b with
 | true=>
  simp only[Kl] at h;obtain⟨ce,h1,h2,rfl⟩:=QG h;unfold Yk at h1;simp only[Ka,Kj] at h1;unfold Un at h1;obtain⟨c,h3,h1⟩:=Za h1;unfold J2 at h1;split at h1
  ·rename_i e1 e2 e3 e4;cases h1;have hq:ZdI ce:=⟨e1,e2,e3,e4⟩
   exact .inr ⟨hw,ce,hq,h3,h2,ZkK hq _ s⟩
  ·cases h1
 | false=>
  simp only[Ka,Kj] at h;cases h;exact .inl ⟨hw,rfl⟩
theorem Zbg {C:Orc} {M:Zg} {nx i:Nat} {o:CO} {s:Sl×Hp} {ce:Zb} (hw:ZK s.1 o.guard=some true) (hq:ZdI ce) (hv:vop C M s.1 s.2 (nx+64*i) o.op=some ce) (hk:Qn (nx+64*i) (nx+64*i+64) ce.eff.adds=true) :
  ZA C M nx i false o s=some (Zi s.1 o.dst ce.eff.val,Zd s.2 ce.eff.adds):=by
 unfold ZA;rw[hw,Zc];simp only[Kl];unfold Xf Yk;simp only[Ka,Kj];rw[hv];simp only[Un,Zc,hq.gone,hq.sets,hq.dels,hq.frz,J2];rw[Kt hk,ZkK hq _ s]
theorem Xe {C:Orc} {M:Zg} {nx i:Nat} {t:Bool} {o:CO} {s:Sl×Hp} (hw:ZK s.1 o.guard=some false):ZA C M nx i t o s=some (Zi s.1 o.dst (.tup []),s.2):=by
 unfold ZA;rw[hw,Zc];rfl
theorem Zbh {sl sl' : Sl} {g:List Nat} {gd:Option (Nat×Bool)} (h:∀ q,gd=some q→gs sl' q.1=kill g (gs sl q.1)):ZK sl' gd=ZK sl gd:=by
 cases gd with
 | none=>rfl
 | some q=>
  simp only[ZK,h q rfl];cases gs sl q.1 with
  | d x=>rfl
  | tup vs=>cases vs<;>rfl
  | ptr a b=>simp only[kill,ZD,ZP];split<;>rfl
  | prow a b c d=>simp only[kill,ZD,ZP];split<;>rfl
  | own a=>simp only[kill,ZD,ZP];split<;>rfl
  | ownv a b c=>simp only[kill,ZD,ZP];split<;>rfl
  | bnil a b=>simp only[kill,ZD,ZP];split<;>rfl
  | _=>rfl
end Go.Abs
