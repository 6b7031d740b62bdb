/- Own text. -/
import Derived.Test.YtighjmleicikhaaAbsDrawC
set_option linter.unusedVariables false
set_option linter.unusedSimpArgs false
namespace Go.Abs
open Go
theorem ZoR {hp:Hp} {m:Bool} {x y:AV} (h:UT hp m x=some y):∀ k∈V2 y,k∈V2 x:=by
 intro k hk;have aa:∀ {r:Option D},asD r=some y→False:=fun {r} h=>by
  obtain⟨d,_,h⟩:=Za h;cases h;simp[V2] at hk
 cases x<;>simp only[UT] at h<;>first | (exact(aa h).elim) | skip
 case d d=>cases h;simp[V2] at hk
 case nil=>cases m<;>simp only[Zbg] at h<;>(cases h;simp[V2] at hk)
 case nilp=>cases h;exact hk
 case nili=>cases h;exact hk
 case ptr a b=>cases h;exact hk
 case pim c=>cases h;exact hk
 case clo f c=>cases h;exact hk
 case own id=>
  cases m<;>simp only[Zah] at h
  ·exact(aa h).elim
  ·cases h;simp[V2] at hk
 case agg cs=>
  cases m<;>simp only[Zai] at h
  ·exact(aa h).elim
  ·split at h
   ·cases h
   ·cases h;simp[V2] at hk
theorem ZiN {hp:Hp} {m:Nat→Bool}:∀ {xs ys:List AV} (i:Nat),args hp m i xs=some ys→∀ y∈ys,∀ k∈V2 y,∃ x∈xs,k∈V2 x
 | [],ys,i,h,y,hy,k,hk=>by simp only[args] at h;cases h;simp at hy
 | x :: xs,ys,i,h,y,hy,k,hk=>by
  simp only[args] at h;obtain⟨a,h1,h⟩:=Za h;obtain⟨as,h2,h⟩:=Za h;cases h;rcases Ke.1 hy with rfl | hy
  ·exact⟨x,by simp,ZoR h1 k hk⟩
  ·obtain⟨x',h3,h4⟩:=ZiN (i+1) h2 y hy k hk;exact⟨x',by simp[h3],h4⟩
theorem ZgV {x:AV}:∀ id∈UZ x,id∈Zf x:=by
 intro id h;cases x<;>simp[UZ] at h<;>simp[Zf,h]
theorem ZlD {x:AV}:∀ id∈J7 x,id∈Zm x:=by
 intro id h;cases x<;>simp only[J7] at h<;>first | exact ZgV id h | (simp[UZ] at h;done) | skip
 case agg cs=>
  obtain⟨c,h1,h2⟩:=Kl.1 h;exact Kl.2 ⟨c,h1,ZgV id h2⟩
theorem Ze7:∀ {xs ys:List AV},∀ i∈Xu xs ys,∃ x∈xs,i∈Zm x
 | [],ys,i,h=>by cases ys<;>simp[Xu] at h
 | x :: xs,[],i,h=>by simp[Xu] at h
 | x :: xs,y :: ys,i,h=>by
  have aa:i∈Xu xs ys→∃ x'∈x :: xs,i∈Zm x':=fun h=>by
   obtain⟨x',h1,h2⟩:=Ze7 i h;exact⟨x',by simp[h1],h2⟩
  rw[ZeP] at h;rcases Kd.1 h with h | h
  ·cases y<;>simp only[ZnI] at h<;>first | (simp at h;done) | exact⟨x,by simp,ZlD i h⟩
  ·exact aa h
theorem ZoS {C:Orc} {m:Nat→Bool} {hp:Hp} {base f:Nat} {ad:List AV} {ce:Zb} (h:U5 C m hp base f ad=some ce) (hm:m 99=false) :
  ce.eff.dels=[]∧(∀ i∈ce.eff.frz,∃ a∈ad,i∈Zm a)∧(∀ i∈ce.gone,∃ o,lkp hp i=some o)∧(∀ k o,(k,o)∈ce.eff.sets→(∃ o,lkp hp k=some o)∧(k∈ce.gone∨∃ a∈ad,k∈V2 a)):=by
 unfold U5 at h;obtain⟨as,h1,h⟩:=Za h;unfold Zaj at h;split at h
 ·rename_i hc;obtain⟨⟨r,out⟩,h2,h⟩:=Za h;unfold WJ at h;split at h
  ·cases h
  split at h
  ·cases h
  ·cases h;obtain⟨_,_,ab⟩:=VI hp (Q3 hp) (as.flatMap Zm) [] K5;have aa : ∀ id∈Qw hp (Q3 hp) (as.flatMap Zm) [],∃ o,lkp hp id=some o:=fun id af=>(ab id af).resolve_left (by simp);refine⟨rfl,fun i hi=>?_,fun i hi=>?_,fun k o hk=>?_⟩
   ·simp only at hi;split at hi
    ·simp at hi
    ·exact Ze7 i hi
   ·rw[hm] at hi;exact aa i (List.mem_filter.1 hi).1
   ·obtain⟨q,o0,h3,_,_⟩:=ZcL _ _ _ _ _ hk;have ae:=Kr h3;refine⟨aa k ae,?_⟩;have:=Kx.1 hc.2.2 k ae;simp only[K1,KD,Kj] at this;rcases this with h4 | h4
    ·exact .inl (by rw[hm];exact List.mem_filter.2 ⟨ae,h4⟩)
    ·obtain⟨y,h5,h6⟩:=Kl.1 h4;exact .inr (ZiN 0 h1 y h5 k h6)
 ·cases h
theorem Za8:∀ {l:Hp} {hp:Hp} {k:Nat} {o:Zh},(∃ o',(k,o')∈l)→lkp (Zd hp l) k=some o→(k,o)∈l
 | [],hp,k,o,h,_=>by obtain⟨o',h⟩:=h;simp at h
 | (a,x) :: r,hp,k,o,h,hl=>by
  simp only[Zd] at hl;by_cases h1:∃ o',(k,o')∈r
  ·exact Ko _ (Za8 h1 hl)
  ·rw[Zq r _ k fun o' aa=>h1 ⟨o',aa⟩,Z2] at hl;obtain⟨o',h2⟩:=h;rcases Ke.1 h2 with h2 | h2
   ·cases h2;rw[Ku rfl] at hl;cases hl;exact KW ..
   ·exact absurd ⟨o',h2⟩ h1
theorem Ux:∀ {l:Hp} {hp hp' : Hp} {k:Nat},(∃ o',(k,o')∈l)→lkp (Zd hp l) k=lkp (Zd hp' l) k
 | [],hp,hp',k,h=>by obtain⟨o',h⟩:=h;simp at h
 | (a,x) :: r,hp,hp',k,h=>by
  simp only[Zd];by_cases h1:∃ o',(k,o')∈r
  ·exact Ux h1
  ·rw[Zq r _ k fun o' aa=>h1 ⟨o',aa⟩,Zq r _ k fun o' aa=>h1 ⟨o',aa⟩,Z2,Z2];obtain⟨o',h2⟩:=h;rcases Ke.1 h2 with h2 | h2
   ·cases h2;simp
   ·exact absurd ⟨o',h2⟩ h1
theorem Wb:∀ (l:Hp) {hp hp' : Hp} {k:Nat},lkp hp k=lkp hp' k→lkp (Zd hp l) k=lkp (Zd hp' l) k
 | [],hp,hp',k,h=>h
 | (a,x) :: r,hp,hp',k,h=>by
  simp only[Zd];exact Wb r (by rw[Z2,Z2,h])
theorem ZnR {ce:Zb} {dX dY:Option Nat} {v:AV} {ax:Hp} {s:Sl×Hp} (hd:Wk dX dY=true) (aa:ce.eff.dels=[])
  (h1:∀ k o,(k,o)∈ax→(∀ o',(k,o')∉ce.eff.sets)∧(∀ o',(k,o')∉ce.eff.adds)∧k∉ce.eff.frz) (h2:∀ k o,(k,o)∈ax→QJ ce.gone o=o) (hv:kill ce.gone v=v) :
  Q0 (Zi (ce.on dY s.1 s.2).1 dX v,Zd (ce.on dY s.1 s.2).2 ax) (ce.on dY (Zi s.1 dX v) (Zd s.2 ax)):=by
 refine⟨fun t=>?_,fun k=>?_⟩
 ·show gs (Zi (Zi (Qz ce.gone s.1) dY ce.eff.val) dX v) t=gs (Zi (Qz ce.gone (Zi s.1 dX v)) dY ce.eff.val) t;simp only[Z4,Ql];by_cases hx:dX=some t
  ·have hy:¬dY=some t:=fun e=>by rw[hx,e] at hd;simp[Wk] at hd
   simp[hx,hy,hv]
  ·simp[hx]
 ·show lkp (Zd (ce.eff.on (Yd ce.gone s.2)) ax) k=lkp (ce.eff.on (Yd ce.gone (Zd s.2 ax))) k;unfold Eff.on;rw[aa];simp only[ZO];by_cases hk:∃ o,(k,o)∈ax
  ·obtain⟨o,ho⟩:=hk;obtain⟨g1,g2,g3⟩:=h1 k o ho;rw[Zq _ (Zd (ZW ce.eff.frz (Yd ce.gone (Zd s.2 ax))) ce.eff.sets) k g2,Zq _ (ZW ce.eff.frz (Yd ce.gone (Zd s.2 ax))) k g1];rw[ZN,Yq];rw[Ux (hp':=s.2) ⟨o,ho⟩];cases hl:lkp (Zd s.2 ax) k with
   | none=>rfl
   | some o' =>
    have:=h2 k o' (Za8 ⟨o,ho⟩ hl);simp[this,g3]
  ·have ab : ∀ o,(k,o)∉ax:=fun o ho=>hk ⟨o,ho⟩;rw[Zq ax _ k ab];refine Wb _ (Wb _ ?_);rw[ZN,ZN,Yq,Yq,Zq ax _ k ab]
structure Zep (ce:Zb):Prop where
 gone:ce.gone=[]
 sets:ce.eff.sets=[]
 dels:ce.eff.dels=[]
 frz:ce.eff.frz=[]
theorem ZlE {ce:Zb} (h:Zep ce) (d:Option Nat) (s:Sl×Hp):ce.on d s.1 s.2=(Zi s.1 d ce.eff.val,Zd s.2 ce.eff.adds):=by
 unfold Zb.on Eff.on;rw[h.gone,h.sets,h.dels,h.frz];rfl
theorem ZmV {C:Orc} {M:Zg} {nx i:Nat} {o:CO} {s s' : Sl×Hp} (h:Zy C M nx i false o s=some s') :
  (ZG s.1 o.guard=some false∧s'=(Zi s.1 o.dst (.tup []),s.2)) ∨
  (ZG s.1 o.guard=some true∧∃ ce,Zep ce∧vop C M s.1 s.2 (nx+64*i) o.op=some ce∧Qu (nx+64*i) (nx+64*i+64) ce.eff.adds=true∧s'=(Zi s.1 o.dst ce.eff.val,Zd s.2 ce.eff.adds)):=by
 unfold Zy at h;obtain⟨b,hw,h⟩:=Za h;cases b with
 | true=>
  simp only[Kh] at h;obtain⟨ce,h1,h2,rfl⟩:=QO h;unfold Yf at h1;simp only[Ka,Kg] at h1;unfold UO at h1;obtain⟨c,h3,h1⟩:=Za h1;unfold Zav at h1;split at h1
  ·rename_i e1 e2 e3 e4;cases h1;have hq:Zep ce:=⟨e1,e2,e3,e4⟩
   exact .inr ⟨hw,ce,hq,h3,h2,ZlE hq _ s⟩
  ·cases h1
 | false=>
  simp only[Ka,Kg] at h;cases h;exact .inl ⟨hw,rfl⟩
theorem ZbL {C:Orc} {M:Zg} {nx i:Nat} {o:CO} {s:Sl×Hp} {ce:Zb} (hw:ZG s.1 o.guard=some true) (hq:Zep ce) (hv:vop C M s.1 s.2 (nx+64*i) o.op=some ce) (hk:Qu (nx+64*i) (nx+64*i+64) ce.eff.adds=true) :
  Zy C M nx i false o s=some (Zi s.1 o.dst ce.eff.val,Zd s.2 ce.eff.adds):=by
 unfold Zy;rw[hw,Zc];simp only[Kh];unfold Xq Yf;simp only[Ka,Kg];rw[hv];simp only[UO,Zc,hq.gone,hq.sets,hq.dels,hq.frz,Zav];rw[Ku hk,ZlE hq _ s]
theorem Xp {C:Orc} {M:Zg} {nx i:Nat} {t:Bool} {o:CO} {s:Sl×Hp} (hw:ZG s.1 o.guard=some false):Zy C M nx i t o s=some (Zi s.1 o.dst (.tup []),s.2):=by
 unfold Zy;rw[hw,Zc];rfl
theorem ZbM {sl sl' : Sl} {g:List Nat} {gd:Option (Nat×Bool)} (h:∀ q,gd=some q→gs sl' q.1=kill g (gs sl q.1)):ZG sl' gd=ZG sl gd:=by
 cases gd with
 | none=>rfl
 | some q=>
  simp only[ZG,h q rfl];cases gs sl q.1 with
  | d x=>rfl
  | tup vs=>cases vs<;>rfl
  | ptr a b=>simp only[kill,Zz,ZM];split<;>rfl
  | prow a b c d=>simp only[kill,Zz,ZM];split<;>rfl
  | own a=>simp only[kill,Zz,ZM];split<;>rfl
  | ownv a b c=>simp only[kill,Zz,ZM];split<;>rfl
  | bnil a b=>simp only[kill,Zz,ZM];split<;>rfl
  | _=>rfl
end Go.Abs
