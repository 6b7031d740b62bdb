/- Own text. -/
import Derived.Test.YtnachaiejoflhaaDoorAbsDrawC
set_option linter.unusedVariables false
set_option linter.unusedSimpArgs false
namespace Go.Abs
open Go
theorem ZpZ {hp:Hp} {m:Bool} {x y:AV} (h:Jl hp m x=some y):∀ k∈Wt y,k∈Wt x:=by
 intro k hk;have aa:∀ {r:Option D},asD r=some y→False:=fun {r} h=>by
  obtain⟨d,_,h⟩:=Za h;cases h;simp[Wt] at hk
 cases x<;>simp only[Jl] at h<;>first | (exact(aa h).elim) | skip
 case d d=>cases h;simp[Wt] at hk
 case nil=>cases m<;>simp only[ZbL] at h<;>(cases h;simp[Wt] at hk)
 case nilp=>cases h;exact hk
 case nili=>cases h;exact hk
 case ptr a b=>cases h;exact hk
 case pim c=>cases h;exact hk
 case clo f c=>cases h;exact hk
 case own id=>
  cases m<;>simp only[ZaJ] at h
  ·exact(aa h).elim
  ·cases h;simp[Wt] at hk
 case agg cs=>
  cases m<;>simp only[ZaK] at h
  ·exact(aa h).elim
  ·split at h
   ·cases h
   ·cases h;simp[Wt] at hk
theorem ZjX {hp:Hp} {m:Nat→Bool}:∀ {xs ys:List AV} (i:Nat),args hp m i xs=some ys→∀ y∈ys,∀ k∈Wt y,∃ x∈xs,k∈Wt x
 | [],ys,i,h,y,hy,k,hk=>by simp only[args] at h;cases h;simp at hy
 | x :: xs,ys,i,h,y,hy,k,hk=>by
  simp only[args] at h;obtain⟨a,h1,h⟩:=Za h;obtain⟨as,h2,h⟩:=Za h;cases h;rcases Ke.1 hy with rfl | hy
  ·exact⟨x,by simp,ZpZ h1 k hk⟩
  ·obtain⟨x',h3,h4⟩:=ZjX (i+1) h2 y hy k hk;exact⟨x',by simp[h3],h4⟩
theorem Zh1 {x:AV}:∀ id∈Jo x,id∈Zg x:=by
 intro id h;cases x<;>simp[Jo] at h<;>simp[Zg,h]
theorem Zmy {x:AV}:∀ id∈Zaz x,id∈Zl x:=by
 intro id h;cases x<;>simp only[Zaz] at h<;>first | exact Zh1 id h | (simp[Jo] at h;done) | skip
 case agg cs=>
  obtain⟨c,h1,h2⟩:=Kp.1 h;exact Kp.2 ⟨c,h1,Zh1 id h2⟩
theorem Zf1:∀ {xs ys:List AV},∀ i∈XU xs ys,∃ x∈xs,i∈Zl x
 | [],ys,i,h=>by cases ys<;>simp[XU] at h
 | x :: xs,[],i,h=>by simp[XU] at h
 | x :: xs,y :: ys,i,h=>by
  have aa:i∈XU xs ys→∃ x'∈x :: xs,i∈Zl x':=fun h=>by
   obtain⟨x',h1,h2⟩:=Zf1 i h;exact⟨x',by simp[h1],h2⟩
  rw[ZfJ] at h;rcases Kd.1 h with h | h
  ·cases y<;>simp only[ZoK] at h<;>first | (simp at h;done) | exact⟨x,by simp,Zmy i h⟩
  ·exact aa h
theorem Zp0 {C:Orc} {m:Nat→Bool} {hp:Hp} {base f:Nat} {ad:List AV} {ce:Zb} (h:Ju C m hp base f ad=some ce) (hm:m 99=false) :
  ce.eff.dels=[]∧(∀ i∈ce.eff.frz,∃ a∈ad,i∈Zl a)∧(∀ i∈ce.gone,∃ o,lkp hp i=some o)∧(∀ k o,(k,o)∈ce.eff.sets→(∃ o,lkp hp k=some o)∧(k∈ce.gone∨∃ a∈ad,k∈Wt a)):=by
 unfold Ju at h;obtain⟨as,h1,h⟩:=Za h;unfold ZaL at h;split at h
 ·rename_i hc;obtain⟨⟨r,out⟩,h2,h⟩:=Za h;unfold W1 at h;split at h
  ·cases h
  split at h
  ·cases h
  ·cases h;obtain⟨_,_,ab⟩:=Wc hp (Xe hp) (as.flatMap Zl) [] La;have aa : ∀ id∈QF hp (Xe hp) (as.flatMap Zl) [],∃ o,lkp hp id=some o:=fun id af=>(ab id af).resolve_left (by simp);refine⟨rfl,fun i hi=>?_,fun i hi=>?_,fun k o hk=>?_⟩
   ·simp only at hi;split at hi
    ·simp at hi
    ·exact Zf1 i hi
   ·rw[hm] at hi;exact aa i (List.mem_filter.1 hi).1
   ·obtain⟨q,o0,h3,_,_⟩:=Zdm _ _ _ _ _ hk;have ae:=Kr h3;refine⟨aa k ae,?_⟩;have:=Kx.1 hc.2.2 k ae;simp only[Lk,KJ,Kj] at this;rcases this with h4 | h4
    ·exact .inl (by rw[hm];exact List.mem_filter.2 ⟨ae,h4⟩)
    ·obtain⟨y,h5,h6⟩:=Kp.1 h4;exact .inr (ZjX 0 h1 y h5 k h6)
 ·cases h
theorem ZbE:∀ {l:Hp} {hp:Hp} {k:Nat} {o:Zf},(∃ o',(k,o')∈l)→lkp (Zd hp l) k=some o→(k,o)∈l
 | [],hp,k,o,h,_=>by obtain⟨o',h⟩:=h;simp at h
 | (a,x) :: r,hp,k,o,h,hl=>by
  simp only[Zd] at hl;by_cases h1:∃ o',(k,o')∈r
  ·exact Kq _ (ZbE h1 hl)
  ·rw[Zq r _ k fun o' aa=>h1 ⟨o',aa⟩,Z9] at hl;obtain⟨o',h2⟩:=h;rcases Ke.1 h2 with h2 | h2
   ·cases h2;rw[Ko rfl] at hl;cases hl;exact KV ..
   ·exact absurd ⟨o',h2⟩ h1
theorem UY:∀ {l:Hp} {hp hp' : Hp} {k:Nat},(∃ o',(k,o')∈l)→lkp (Zd hp l) k=lkp (Zd hp' l) k
 | [],hp,hp',k,h=>by obtain⟨o',h⟩:=h;simp at h
 | (a,x) :: r,hp,hp',k,h=>by
  simp only[Zd];by_cases h1:∃ o',(k,o')∈r
  ·exact UY h1
  ·rw[Zq r _ k fun o' aa=>h1 ⟨o',aa⟩,Zq r _ k fun o' aa=>h1 ⟨o',aa⟩,Z9,Z9];obtain⟨o',h2⟩:=h;rcases Ke.1 h2 with h2 | h2
   ·cases h2;simp
   ·exact absurd ⟨o',h2⟩ h1
theorem WB:∀ (l:Hp) {hp hp' : Hp} {k:Nat},lkp hp k=lkp hp' k→lkp (Zd hp l) k=lkp (Zd hp' l) k
 | [],hp,hp',k,h=>h
 | (a,x) :: r,hp,hp',k,h=>by
  simp only[Zd];exact WB r (by rw[Z9,Z9,h])
theorem ZoU {ce:Zb} {dX dY:Option Nat} {v:AV} {ax:Hp} {s:Sl×Hp} (hd:WG dX dY=true) (aa:ce.eff.dels=[])
  (h1:∀ k o,(k,o)∈ax→(∀ o',(k,o')∉ce.eff.sets)∧(∀ o',(k,o')∉ce.eff.adds)∧k∉ce.eff.frz) (h2:∀ k o,(k,o)∈ax→QU ce.gone o=o) (hv:kill ce.gone v=v) :
  Xb (Zi (ce.on dY s.1 s.2).1 dX v,Zd (ce.on dY s.1 s.2).2 ax) (ce.on dY (Zi s.1 dX v) (Zd s.2 ax)):=by
 refine⟨fun t=>?_,fun k=>?_⟩
 ·show gs (Zi (Zi (QL ce.gone s.1) dY ce.eff.val) dX v) t=gs (Zi (QL ce.gone (Zi s.1 dX v)) dY ce.eff.val) t;simp only[Qb,Qt];by_cases hx:dX=some t
  ·have hy:¬dY=some t:=fun e=>by rw[hx,e] at hd;simp[WG] at hd
   simp[hx,hy,hv]
  ·simp[hx]
 ·show lkp (Zd (ce.eff.on (YG ce.gone s.2)) ax) k=lkp (ce.eff.on (YG ce.gone (Zd s.2 ax))) k;unfold Eff.on;rw[aa];simp only[ZV];by_cases hk:∃ o,(k,o)∈ax
  ·obtain⟨o,ho⟩:=hk;obtain⟨g1,g2,g3⟩:=h1 k o ho;rw[Zq _ (Zd (Z0 ce.eff.frz (YG ce.gone (Zd s.2 ax))) ce.eff.sets) k g2,Zq _ (Z0 ce.eff.frz (YG ce.gone (Zd s.2 ax))) k g1];rw[ZU,YT];rw[UY (hp':=s.2) ⟨o,ho⟩];cases hl:lkp (Zd s.2 ax) k with
   | none=>rfl
   | some o' =>
    have:=h2 k o' (ZbE ⟨o,ho⟩ hl);simp[this,g3]
  ·have ab : ∀ o,(k,o)∉ax:=fun o ho=>hk ⟨o,ho⟩;rw[Zq ax _ k ab];refine WB _ (WB _ ?_);rw[ZU,ZU,YT,YT,Zq ax _ k ab]
structure Ze9 (ce:Zb):Prop where
 gone:ce.gone=[]
 sets:ce.eff.sets=[]
 dels:ce.eff.dels=[]
 frz:ce.eff.frz=[]
theorem Zmz {ce:Zb} (h:Ze9 ce) (d:Option Nat) (s:Sl×Hp):ce.on d s.1 s.2=(Zi s.1 d ce.eff.val,Zd s.2 ce.eff.adds):=by
 unfold Zb.on Eff.on;rw[h.gone,h.sets,h.dels,h.frz];rfl
theorem ZnS {C:Orc} {M:Zh} {nx i:Nat} {o:CO} {s s' : Sl×Hp} (h:Zw C M nx i false o s=some s') :
  (ZK s.1 o.guard=some false∧s'=(Zi s.1 o.dst (.tup []),s.2)) ∨
  (ZK s.1 o.guard=some true∧∃ ce,Ze9 ce∧vop C M s.1 s.2 (nx+64*i) o.op=some ce∧QD (nx+64*i) (nx+64*i+64) ce.eff.adds=true∧s'=(Zi s.1 o.dst ce.eff.val,Zd s.2 ce.eff.adds)):=by
 unfold Zw at h;obtain⟨b,hw,h⟩:=Za h;cases b with
 | true=>
  simp only[Kk] at h;obtain⟨ce,h1,h2,rfl⟩:=Q0 h;unfold YI at h1;simp only[Ka,Km] at h1;unfold Jf at h1;obtain⟨c,h3,h1⟩:=Za h1;unfold ZaZ at h1;split at h1
  ·rename_i e1 e2 e3 e4;cases h1;have hq:Ze9 ce:=⟨e1,e2,e3,e4⟩
   exact .inr ⟨hw,ce,hq,h3,h2,Zmz hq _ s⟩
  ·cases h1
 | false=>
  simp only[Ka,Km] at h;cases h;exact .inl ⟨hw,rfl⟩
theorem Zcm {C:Orc} {M:Zh} {nx i:Nat} {o:CO} {s:Sl×Hp} {ce:Zb} (hw:ZK s.1 o.guard=some true) (hq:Ze9 ce) (hv:vop C M s.1 s.2 (nx+64*i) o.op=some ce) (hk:QD (nx+64*i) (nx+64*i+64) ce.eff.adds=true) :
  Zw C M nx i false o s=some (Zi s.1 o.dst ce.eff.val,Zd s.2 ce.eff.adds):=by
 unfold Zw;rw[hw,Zc];simp only[Kk];unfold XQ YI;simp only[Ka,Km];rw[hv];simp only[Jf,Zc,hq.gone,hq.sets,hq.dels,hq.frz,ZaZ];rw[Ko hk,Zmz hq _ s]
theorem XP {C:Orc} {M:Zh} {nx i:Nat} {t:Bool} {o:CO} {s:Sl×Hp} (hw:ZK s.1 o.guard=some false):Zw C M nx i t o s=some (Zi s.1 o.dst (.tup []),s.2):=by
 unfold Zw;rw[hw,Zc];rfl
theorem Zcn {sl sl' : Sl} {g:List Nat} {gd:Option (Nat×Bool)} (h:∀ q,gd=some q→gs sl' q.1=kill g (gs sl q.1)):ZK sl' gd=ZK sl gd:=by
 cases gd with
 | none=>rfl
 | some q=>
  simp only[ZK,h q rfl];cases gs sl q.1 with
  | d x=>rfl
  | tup vs=>cases vs<;>rfl
  | ptr a b=>simp only[kill,ZE,ZT];split<;>rfl
  | prow a b c d=>simp only[kill,ZE,ZT];split<;>rfl
  | own a=>simp only[kill,ZE,ZT];split<;>rfl
  | ownv a b c=>simp only[kill,ZE,ZT];split<;>rfl
  | bnil a b=>simp only[kill,ZE,ZT];split<;>rfl
  | _=>rfl
end Go.Abs
