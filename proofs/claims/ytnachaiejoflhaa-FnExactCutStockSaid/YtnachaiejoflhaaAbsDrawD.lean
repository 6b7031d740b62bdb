/- Own text. -/
import Derived.Test.YtnachaiejoflhaaAbsDrawC
set_option linter.unusedVariables false
set_option linter.unusedSimpArgs false
namespace Go.Abs
open Go
theorem ZqF {hp:Hp} {m:Bool} {x y:AV} (h:JB hp m x=some y):∀ k∈WC y,k∈WC x:=by
 intro k hk;have aa:∀ {r:Option D},asD r=some y→False:=fun {r} h=>by
  obtain⟨d,_,h⟩:=Za h;cases h;simp[WC] at hk
 cases x<;>simp only[JB] at h<;>first | (exact(aa h).elim) | skip
 case d d=>cases h;simp[WC] at hk
 case nil=>cases m<;>simp only[Zcb] at h<;>(cases h;simp[WC] at hk)
 case nilp=>cases h;exact hk
 case nili=>cases h;exact hk
 case ptr a b=>cases h;exact hk
 case pim c=>cases h;exact hk
 case clo f c=>cases h;exact hk
 case own id=>
  cases m<;>simp only[ZaX] at h
  ·exact(aa h).elim
  ·cases h;simp[WC] at hk
 case agg cs=>
  cases m<;>simp only[ZaY] at h
  ·exact(aa h).elim
  ·split at h
   ·cases h
   ·cases h;simp[WC] at hk
theorem Zkz {hp:Hp} {m:Nat→Bool}:∀ {xs ys:List AV} (i:Nat),args hp m i xs=some ys→∀ y∈ys,∀ k∈WC y,∃ x∈xs,k∈WC x
 | [],ys,i,h,y,hy,k,hk=>by simp only[args] at h;cases h;simp at hy
 | x :: xs,ys,i,h,y,hy,k,hk=>by
  simp only[args] at h;obtain⟨a,h1,h⟩:=Za h;obtain⟨as,h2,h⟩:=Za h;cases h;rcases Kf.1 hy with rfl | hy
  ·exact⟨x,by simp,ZqF h1 k hk⟩
  ·obtain⟨x',h3,h4⟩:=Zkz (i+1) h2 y hy k hk;exact⟨x',by simp[h3],h4⟩
theorem ZhP {x:AV}:∀ id∈JC x,id∈Zi x:=by
 intro id h;cases x<;>simp[JC] at h<;>simp[Zi,h]
theorem Zm3 {x:AV}:∀ id∈ZaM x,id∈Zo x:=by
 intro id h;cases x<;>simp only[ZaM] at h<;>first | exact ZhP id h | (simp[JC] at h;done) | skip
 case agg cs=>
  obtain⟨c,h1,h2⟩:=Kk.1 h;exact Kk.2 ⟨c,h1,ZhP id h2⟩
theorem Zgs:∀ {xs ys:List AV},∀ i∈Xw xs ys,∃ x∈xs,i∈Zo x
 | [],ys,i,h=>by cases ys<;>simp[Xw] at h
 | x :: xs,[],i,h=>by simp[Xw] at h
 | x :: xs,y :: ys,i,h=>by
  have aa:i∈Xw xs ys→∃ x'∈x :: xs,i∈Zo x':=fun h=>by
   obtain⟨x',h1,h2⟩:=Zgs i h;exact⟨x',by simp[h1],h2⟩
  rw[Zga] at h;rcases Kd.1 h with h | h
  ·cases y<;>simp only[ZpB] at h<;>first | (simp at h;done) | exact⟨x,by simp,Zm3 i h⟩
  ·exact aa h
theorem ZqG {C:Orc} {m:Nat→Bool} {hp:Hp} {base f:Nat} {ad:List AV} {ce:Zb} (h:JJ C m hp base f ad=some ce) (hm:m 99=false) :
  ce.eff.dels=[]∧(∀ i∈ce.eff.frz,∃ a∈ad,i∈Zo a)∧(∀ i∈ce.gone,∃ o,lkp hp i=some o)∧(∀ k o,(k,o)∈ce.eff.sets→(∃ o,lkp hp k=some o)∧(k∈ce.gone∨∃ a∈ad,k∈WC a)):=by
 unfold JJ at h;obtain⟨as,h1,h⟩:=Za h;unfold ZaZ at h;split at h
 ·rename_i hc;obtain⟨⟨r,out⟩,h2,h⟩:=Za h;unfold W7 at h;split at h
  ·cases h
  split at h
  ·cases h
  ·cases h;obtain⟨_,_,ab⟩:=VY hp (QZ hp) (as.flatMap Zo) [] K2;have aa : ∀ id∈Qy hp (QZ hp) (as.flatMap Zo) [],∃ o,lkp hp id=some o:=fun id af=>(ab id af).resolve_left (by simp);refine⟨rfl,fun i hi=>?_,fun i hi=>?_,fun k o hk=>?_⟩
   ·simp only at hi;split at hi
    ·simp at hi
    ·exact Zgs i hi
   ·rw[hm] at hi;exact aa i (List.mem_filter.1 hi).1
   ·obtain⟨q,o0,h3,_,_⟩:=ZdP _ _ _ _ _ hk;have ae:=Ke h3;refine⟨aa k ae,?_⟩;have:=Kw.1 hc.2.2 k ae;simp only[Lc,KC,Ko] at this;rcases this with h4 | h4
    ·exact .inl (by rw[hm];exact List.mem_filter.2 ⟨ae,h4⟩)
    ·obtain⟨y,h5,h6⟩:=Kk.1 h4;exact .inr (Zkz 0 h1 y h5 k h6)
 ·cases h
theorem Zb2:∀ {l:Hp} {hp:Hp} {k:Nat} {o:Zk},(∃ o',(k,o')∈l)→lkp (Zd hp l) k=some o→(k,o)∈l
 | [],hp,k,o,h,_=>by obtain⟨o',h⟩:=h;simp at h
 | (a,x) :: r,hp,k,o,h,hl=>by
  simp only[Zd] at hl;by_cases h1:∃ o',(k,o')∈r
  ·exact Km _ (Zb2 h1 hl)
  ·rw[Zu r _ k fun o' aa=>h1 ⟨o',aa⟩,Z7] at hl;obtain⟨o',h2⟩:=h;rcases Kf.1 h2 with h2 | h2
   ·cases h2;rw[Kt rfl] at hl;cases hl;exact KT ..
   ·exact absurd ⟨o',h2⟩ h1
theorem UU:∀ {l:Hp} {hp hp' : Hp} {k:Nat},(∃ o',(k,o')∈l)→lkp (Zd hp l) k=lkp (Zd hp' l) k
 | [],hp,hp',k,h=>by obtain⟨o',h⟩:=h;simp at h
 | (a,x) :: r,hp,hp',k,h=>by
  simp only[Zd];by_cases h1:∃ o',(k,o')∈r
  ·exact UU h1
  ·rw[Zu r _ k fun o' aa=>h1 ⟨o',aa⟩,Zu r _ k fun o' aa=>h1 ⟨o',aa⟩,Z7,Z7];obtain⟨o',h2⟩:=h;rcases Kf.1 h2 with h2 | h2
   ·cases h2;simp
   ·exact absurd ⟨o',h2⟩ h1
theorem WJ:∀ (l:Hp) {hp hp' : Hp} {k:Nat},lkp hp k=lkp hp' k→lkp (Zd hp l) k=lkp (Zd hp' l) k
 | [],hp,hp',k,h=>h
 | (a,x) :: r,hp,hp',k,h=>by
  simp only[Zd];exact WJ r (by rw[Z7,Z7,h])
theorem ZpL {ce:Zb} {dX dY:Option Nat} {v:AV} {ax:Hp} {s:Sl×Hp} (hd:WP dX dY=true) (aa:ce.eff.dels=[])
  (h1:∀ k o,(k,o)∈ax→(∀ o',(k,o')∉ce.eff.sets)∧(∀ o',(k,o')∉ce.eff.adds)∧k∉ce.eff.frz) (h2:∀ k o,(k,o)∈ax→QH ce.gone o=o) (hv:kill ce.gone v=v) :
  QX (Zl (ce.on dY s.1 s.2).1 dX v,Zd (ce.on dY s.1 s.2).2 ax) (ce.on dY (Zl s.1 dX v) (Zd s.2 ax)):=by
 refine⟨fun t=>?_,fun k=>?_⟩
 ·show gs (Zl (Zl (QA ce.gone s.1) dY ce.eff.val) dX v) t=gs (Zl (QA ce.gone (Zl s.1 dX v)) dY ce.eff.val) t;simp only[Z8,Qp];by_cases hx:dX=some t
  ·have hy:¬dY=some t:=fun e=>by rw[hx,e] at hd;simp[WP] at hd
   simp[hx,hy,hv]
  ·simp[hx]
 ·show lkp (Zd (ce.eff.on (Yq ce.gone s.2)) ax) k=lkp (ce.eff.on (Yq ce.gone (Zd s.2 ax))) k;unfold Eff.on;rw[aa];simp only[ZV];by_cases hk:∃ o,(k,o)∈ax
  ·obtain⟨o,ho⟩:=hk;obtain⟨g1,g2,g3⟩:=h1 k o ho;rw[Zu _ (Zd (Z1 ce.eff.frz (Yq ce.gone (Zd s.2 ax))) ce.eff.sets) k g2,Zu _ (Z1 ce.eff.frz (Yq ce.gone (Zd s.2 ax))) k g1];rw[ZU,Yw];rw[UU (hp':=s.2) ⟨o,ho⟩];cases hl:lkp (Zd s.2 ax) k with
   | none=>rfl
   | some o' =>
    have:=h2 k o' (Zb2 ⟨o,ho⟩ hl);simp[this,g3]
  ·have ab : ∀ o,(k,o)∉ax:=fun o ho=>hk ⟨o,ho⟩;rw[Zu ax _ k ab];refine WJ _ (WJ _ ?_);rw[ZU,ZU,Yw,Yw,Zu ax _ k ab]
structure Zfv (ce:Zb):Prop where
 gone:ce.gone=[]
 sets:ce.eff.sets=[]
 dels:ce.eff.dels=[]
 frz:ce.eff.frz=[]
theorem Zm4 {ce:Zb} (h:Zfv ce) (d:Option Nat) (s:Sl×Hp):ce.on d s.1 s.2=(Zl s.1 d ce.eff.val,Zd s.2 ce.eff.adds):=by
 unfold Zb.on Eff.on;rw[h.gone,h.sets,h.dels,h.frz];rfl
theorem ZoK {C:Orc} {M:Zj} {nx i:Nat} {o:CO} {s s' : Sl×Hp} (h:ZD C M nx i false o s=some s') :
  (ZM s.1 o.guard=some false∧s'=(Zl s.1 o.dst (.tup []),s.2)) ∨
  (ZM s.1 o.guard=some true∧∃ ce,Zfv ce∧vop C M s.1 s.2 (nx+64*i) o.op=some ce∧Qx (nx+64*i) (nx+64*i+64) ce.eff.adds=true∧s'=(Zl s.1 o.dst ce.eff.val,Zd s.2 ce.eff.adds)):=by
 unfold ZD at h;obtain⟨b,hw,h⟩:=Za h;cases b with
 | true=>
  simp only[Kj] at h;obtain⟨ce,h1,h2,rfl⟩:=QK h;unfold Yt at h1;simp only[Ka,Ki] at h1;unfold Je at h1;obtain⟨c,h3,h1⟩:=Za h1;unfold Zbb at h1;split at h1
  ·rename_i e1 e2 e3 e4;cases h1;have hq:Zfv ce:=⟨e1,e2,e3,e4⟩
   exact .inr ⟨hw,ce,hq,h3,h2,Zm4 hq _ s⟩
  ·cases h1
 | false=>
  simp only[Ka,Ki] at h;cases h;exact .inl ⟨hw,rfl⟩
theorem ZcX {C:Orc} {M:Zj} {nx i:Nat} {o:CO} {s:Sl×Hp} {ce:Zb} (hw:ZM s.1 o.guard=some true) (hq:Zfv ce) (hv:vop C M s.1 s.2 (nx+64*i) o.op=some ce) (hk:Qx (nx+64*i) (nx+64*i+64) ce.eff.adds=true) :
  ZD C M nx i false o s=some (Zl s.1 o.dst ce.eff.val,Zd s.2 ce.eff.adds):=by
 unfold ZD;rw[hw,Zc];simp only[Kj];unfold Xq Yt;simp only[Ka,Ki];rw[hv];simp only[Je,Zc,hq.gone,hq.sets,hq.dels,hq.frz,Zbb];rw[Kt hk,Zm4 hq _ s]
theorem Xn {C:Orc} {M:Zj} {nx i:Nat} {t:Bool} {o:CO} {s:Sl×Hp} (hw:ZM s.1 o.guard=some false):ZD C M nx i t o s=some (Zl s.1 o.dst (.tup []),s.2):=by
 unfold ZD;rw[hw,Zc];rfl
theorem ZcY {sl sl' : Sl} {g:List Nat} {gd:Option (Nat×Bool)} (h:∀ q,gd=some q→gs sl' q.1=kill g (gs sl q.1)):ZM sl' gd=ZM sl gd:=by
 cases gd with
 | none=>rfl
 | some q=>
  simp only[ZM,h q rfl];cases gs sl q.1 with
  | d x=>rfl
  | tup vs=>cases vs<;>rfl
  | ptr a b=>simp only[kill,ZG,ZT];split<;>rfl
  | prow a b c d=>simp only[kill,ZG,ZT];split<;>rfl
  | own a=>simp only[kill,ZG,ZT];split<;>rfl
  | ownv a b c=>simp only[kill,ZG,ZT];split<;>rfl
  | bnil a b=>simp only[kill,ZG,ZT];split<;>rfl
  | _=>rfl
end Go.Abs
