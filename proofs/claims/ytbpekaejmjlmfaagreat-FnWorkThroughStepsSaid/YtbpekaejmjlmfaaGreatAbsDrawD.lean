/- Own text. -/
import Derived.Test.YtbpekaejmjlmfaaGreatAbsDrawC
set_option linter.unusedVariables false
set_option linter.unusedSimpArgs false
namespace Go.Abs
open Go
theorem ZAl {hp:Hp} {m:Bool} {x y:AV} (h:ZdX hp m x=some y):∀ k∈Zbc y,k∈Zbc x:=by
 intro k hk;have aa:∀ {r:Option D},asD r=some y→False:=fun {r} h=>by
  obtain⟨d,_,h⟩:=Za h;cases h;simp[Zbc] at hk
 cases x<;>simp only[ZdX] at h<;>first | (exact(aa h).elim) | skip
 case d d=>cases h;simp[Zbc] at hk
 case nil=>cases m<;>simp only[ZhP] at h<;>(cases h;simp[Zbc] at hk)
 case nilp=>cases h;exact hk
 case nili=>cases h;exact hk
 case ptr a b=>cases h;exact hk
 case pim c=>cases h;exact hk
 case clo f c=>cases h;exact hk
 case own id=>
  cases m<;>simp only[Zgo] at h
  ·exact(aa h).elim
  ·cases h;simp[Zbc] at hk
 case agg cs=>
  cases m<;>simp only[Zgp] at h
  ·exact(aa h).elim
  ·split at h
   ·cases h
   ·cases h;simp[Zbc] at hk
theorem Ztp {hp:Hp} {m:Nat→Bool}:∀ {xs ys:List AV} (i:Nat),args hp m i xs=some ys→∀ y∈ys,∀ k∈Zbc y,∃ x∈xs,k∈Zbc x
 | [],ys,i,h,y,hy,k,hk=>by simp only[args] at h;cases h;simp at hy
 | x :: xs,ys,i,h,y,hy,k,hk=>by
  simp only[args] at h;obtain⟨a,h1,h⟩:=Za h;obtain⟨as,h2,h⟩:=Za h;cases h;rcases Kg.1 hy with rfl | hy
  ·exact⟨x,by simp,ZAl h1 k hk⟩
  ·obtain⟨x',h3,h4⟩:=Ztp (i+1) h2 y hy k hk;exact⟨x',by simp[h3],h4⟩
theorem ZqB {x:AV}:∀ id∈Zd9 x,id∈Zo x:=by
 intro id h;cases x<;>simp[Zd9] at h<;>simp[Zo,h]
theorem ZwD {x:AV}:∀ id∈Zgc x,id∈Zy x:=by
 intro id h;cases x<;>simp only[Zgc] at h<;>first | exact ZqB id h | (simp[Zd9] at h;done) | skip
 case agg cs=>
  obtain⟨c,h1,h2⟩:=Kx.1 h;exact Kx.2 ⟨c,h1,ZqB id h2⟩
theorem Zm1:∀ {xs ys:List AV},∀ i∈Ve xs ys,∃ x∈xs,i∈Zy x
 | [],ys,i,h=>by cases ys<;>simp[Ve] at h
 | x :: xs,[],i,h=>by simp[Ve] at h
 | x :: xs,y :: ys,i,h=>by
  have aa:i∈Ve xs ys→∃ x'∈x :: xs,i∈Zy x':=fun h=>by
   obtain⟨x',h1,h2⟩:=Zm1 i h;exact⟨x',by simp[h1],h2⟩
  rw[ZmJ] at h;rcases Kf.1 h with h | h
  ·cases y<;>simp only[Zy5] at h<;>first | (simp at h;done) | exact⟨x,by simp,ZwD i h⟩
  ·exact aa h
theorem ZAm {C:Orc} {m:Nat→Bool} {hp:Hp} {base f:Nat} {ad:List AV} {ce:Zf} (h:Zeh C m hp base f ad=some ce) (hm:m 99=false) :
  ce.eff.dels=[]∧(∀ i∈ce.eff.frz,∃ a∈ad,i∈Zy a)∧(∀ i∈ce.gone,∃ o,lkp hp i=some o)∧(∀ k o,(k,o)∈ce.eff.sets→(∃ o,lkp hp k=some o)∧(k∈ce.gone∨∃ a∈ad,k∈Zbc a)):=by
 unfold Zeh at h;obtain⟨as,h1,h⟩:=Za h;unfold Zgq at h;split at h
 ·rename_i hc;obtain⟨⟨r,out⟩,h2,h⟩:=Za h;unfold Zb4 at h;split at h
  ·cases h
  split at h
  ·cases h
  ·cases h;obtain⟨_,_,ab⟩:=ZaN hp (X9 hp) (as.flatMap Zy) [] Lk;have aa : ∀ id∈Xb hp (X9 hp) (as.flatMap Zy) [],∃ o,lkp hp id=some o:=fun id af=>(ab id af).resolve_left (by simp);refine⟨rfl,fun i hi=>?_,fun i hi=>?_,fun k o hk=>?_⟩
   ·simp only at hi;split at hi
    ·simp at hi
    ·exact Zm1 i hi
   ·rw[hm] at hi;exact aa i (LN.1 hi).1
   ·obtain⟨q,o0,h3,_,_⟩:=ZjJ _ _ _ _ _ hk;have ae:=Kb h3;refine⟨aa k ae,?_⟩;have:=KZ.1 hc.2.2 k ae;simp only[Lj,K0,Kr] at this;rcases this with h4 | h4
    ·exact .inl (by rw[hm];exact LN.2 ⟨ae,h4⟩)
    ·obtain⟨y,h5,h6⟩:=Kx.1 h4;exact .inr (Ztp 0 h1 y h5 k h6)
 ·cases h
theorem ZhH:∀ {l:Hp} {hp:Hp} {k:Nat} {o:Zn},(∃ o',(k,o')∈l)→lkp (Zi hp l) k=some o→(k,o)∈l
 | [],hp,k,o,h,_=>by obtain⟨o',h⟩:=h;simp at h
 | (a,x) :: r,hp,k,o,h,hl=>by
  simp only[Zi] at hl;by_cases h1:∃ o',(k,o')∈r
  ·exact Ky _ (ZhH h1 hl)
  ·rw[ZG r _ k fun o' aa=>h1 ⟨o',aa⟩,Qz] at hl;obtain⟨o',h2⟩:=h;rcases Kg.1 h2 with h2 | h2
   ·cases h2;rw[Kl rfl] at hl;cases hl;exact Ll ..
   ·exact absurd ⟨o',h2⟩ h1
theorem Zdz:∀ {l:Hp} {hp hp' : Hp} {k:Nat},(∃ o',(k,o')∈l)→lkp (Zi hp l) k=lkp (Zi hp' l) k
 | [],hp,hp',k,h=>by obtain⟨o',h⟩:=h;simp at h
 | (a,x) :: r,hp,hp',k,h=>by
  simp only[Zi];by_cases h1:∃ o',(k,o')∈r
  ·exact Zdz h1
  ·rw[ZG r _ k fun o' aa=>h1 ⟨o',aa⟩,ZG r _ k fun o' aa=>h1 ⟨o',aa⟩,Qz,Qz];obtain⟨o',h2⟩:=h;rcases Kg.1 h2 with h2 | h2
   ·cases h2;simp
   ·exact absurd ⟨o',h2⟩ h1
theorem Zbq:∀ (l:Hp) {hp hp' : Hp} {k:Nat},lkp hp k=lkp hp' k→lkp (Zi hp l) k=lkp (Zi hp' l) k
 | [],hp,hp',k,h=>h
 | (a,x) :: r,hp,hp',k,h=>by
  simp only[Zi];exact Zbq r (by rw[Qz,Qz,h])
theorem Zzf {ce:Zf} {dX dY:Option Nat} {v:AV} {ax:Hp} {s:Sl×Hp} (hd:Zbv dX dY=true) (aa:ce.eff.dels=[])
  (h1:∀ k o,(k,o)∈ax→(∀ o',(k,o')∉ce.eff.sets)∧(∀ o',(k,o')∉ce.eff.adds)∧k∉ce.eff.frz) (h2:∀ k o,(k,o)∈ax→Xt ce.gone o=o) (hv:kill ce.gone v=v) :
  X4 (Zt (ce.on dY s.1 s.2).1 dX v,Zi (ce.on dY s.1 s.2).2 ax) (ce.on dY (Zt s.1 dX v) (Zi s.2 ax)):=by
 refine⟨fun t=>?_,fun k=>?_⟩
 ·show gs (Zt (Zt (Xl ce.gone s.1) dY ce.eff.val) dX v) t=gs (Zt (Xl ce.gone (Zt s.1 dX v)) dY ce.eff.val) t;simp only[QG,QU];by_cases hx:dX=some t
  ·have hy:¬dY=some t:=fun e=>by rw[hx,e] at hd;simp[Zbv] at hd
   simp[hx,hy,hv]
  ·simp[hx]
 ·show lkp (Zi (ce.eff.on (WN ce.gone s.2)) ax) k=lkp (ce.eff.on (WN ce.gone (Zi s.2 ax))) k;unfold Eff.on;rw[aa];simp only[Qe];by_cases hk:∃ o,(k,o)∈ax
  ·obtain⟨o,ho⟩:=hk;obtain⟨g1,g2,g3⟩:=h1 k o ho;rw[ZG _ (Zi (Qr ce.eff.frz (WN ce.gone (Zi s.2 ax))) ce.eff.sets) k g2,ZG _ (Qr ce.eff.frz (WN ce.gone (Zi s.2 ax))) k g1];rw[Qi,Uc];rw[Zdz (hp':=s.2) ⟨o,ho⟩];cases hl:lkp (Zi s.2 ax) k with
   | none=>rfl
   | some o' =>
    have:=h2 k o' (ZhH ⟨o,ho⟩ hl);simp[this,g3]
  ·have ab : ∀ o,(k,o)∉ax:=fun o ho=>hk ⟨o,ho⟩;rw[ZG ax _ k ab];refine Zbq _ (Zbq _ ?_);rw[Qi,Qi,Uc,Uc,ZG ax _ k ab]
structure Zl9 (ce:Zf):Prop where
 gone:ce.gone=[]
 sets:ce.eff.sets=[]
 dels:ce.eff.dels=[]
 frz:ce.eff.frz=[]
theorem ZwE {ce:Zf} (h:Zl9 ce) (d:Option Nat) (s:Sl×Hp):ce.on d s.1 s.2=(Zt s.1 d ce.eff.val,Zi s.2 ce.eff.adds):=by
 unfold Zf.on Eff.on;rw[h.gone,h.sets,h.dels,h.frz];rfl
theorem Zyd {C:Orc} {M:Zp} {nx i:Nat} {o:CO} {s s' : Sl×Hp} (h:ZS C M nx i false o s=some s') :
  (Z6 s.1 o.guard=some false∧s'=(Zt s.1 o.dst (.tup []),s.2)) ∨
  (Z6 s.1 o.guard=some true∧∃ ce,Zl9 ce∧vop C M s.1 s.2 (nx+64*i) o.op=some ce∧Q5 (nx+64*i) (nx+64*i+64) ce.eff.adds=true∧s'=(Zt s.1 o.dst ce.eff.val,Zi s.2 ce.eff.adds)):=by
 unfold ZS at h;obtain⟨b,hw,h⟩:=Za h;cases b with
 | true=>
  simp only[Kk] at h;obtain⟨ce,h1,h2,rfl⟩:=XB h;unfold WQ at h1;simp only[Ka,Kj] at h1;unfold ZdR at h1;obtain⟨c,h3,h1⟩:=Za h1;unfold ZgB at h1;split at h1
  ·rename_i e1 e2 e3 e4;cases h1;have hq:Zl9 ce:=⟨e1,e2,e3,e4⟩
   exact .inr ⟨hw,ce,hq,h3,h2,ZwE hq _ s⟩
  ·cases h1
 | false=>
  simp only[Ka,Kj] at h;cases h;exact .inl ⟨hw,rfl⟩
theorem Ziv {C:Orc} {M:Zp} {nx i:Nat} {o:CO} {s:Sl×Hp} {ce:Zf} (hw:Z6 s.1 o.guard=some true) (hq:Zl9 ce) (hv:vop C M s.1 s.2 (nx+64*i) o.op=some ce) (hk:Q5 (nx+64*i) (nx+64*i+64) ce.eff.adds=true) :
  ZS C M nx i false o s=some (Zt s.1 o.dst ce.eff.val,Zi s.2 ce.eff.adds):=by
 unfold ZS;rw[hw,Zg];simp only[Kk];unfold YZ WQ;simp only[Ka,Kj];rw[hv];simp only[ZdR,Zg,hq.gone,hq.sets,hq.dels,hq.frz,ZgB];rw[Kl hk,ZwE hq _ s]
theorem YX {C:Orc} {M:Zp} {nx i:Nat} {t:Bool} {o:CO} {s:Sl×Hp} (hw:Z6 s.1 o.guard=some false):ZS C M nx i t o s=some (Zt s.1 o.dst (.tup []),s.2):=by
 unfold ZS;rw[hw,Zg];rfl
theorem Ziw {sl sl' : Sl} {g:List Nat} {gd:Option (Nat×Bool)} (h:∀ q,gd=some q→gs sl' q.1=kill g (gs sl q.1)):Z6 sl' gd=Z6 sl gd:=by
 cases gd with
 | none=>rfl
 | some q=>
  simp only[Z6,h q rfl];cases gs sl q.1 with
  | d x=>rfl
  | tup vs=>cases vs<;>rfl
  | ptr a b=>simp only[kill,ZW,Qh];split<;>rfl
  | prow a b c d=>simp only[kill,ZW,Qh];split<;>rfl
  | own a=>simp only[kill,ZW,Qh];split<;>rfl
  | ownv a b c=>simp only[kill,ZW,Qh];split<;>rfl
  | bnil a b=>simp only[kill,ZW,Qh];split<;>rfl
  | _=>rfl
end Go.Abs
