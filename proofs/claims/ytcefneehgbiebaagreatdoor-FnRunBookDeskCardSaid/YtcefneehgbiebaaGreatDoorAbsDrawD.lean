/- Own text. -/
import Derived.Test.YtcefneehgbiebaaGreatDoorAbsDrawC
set_option linter.unusedVariables false
set_option linter.unusedSimpArgs false
namespace Go.Abs
open Go
theorem ZzG {hp:Hp} {m:Bool} {x y:AV} (h:Zej hp m x=some y):∀ k∈ZbK y,k∈ZbK x:=by
 intro k hk;have aa:∀ {r:Option D},asD r=some y→False:=fun {r} h=>by
  obtain⟨d,_,h⟩:=Za h;cases h;simp[ZbK] at hk
 cases x<;>simp only[Zej] at h<;>first | (exact(aa h).elim) | skip
 case d d=>cases h;simp[ZbK] at hk
 case nil=>cases m<;>simp only[Zha] at h<;>(cases h;simp[ZbK] at hk)
 case nilp=>cases h;exact hk
 case nili=>cases h;exact hk
 case ptr a b=>cases h;exact hk
 case pim c=>cases h;exact hk
 case clo f c=>cases h;exact hk
 case own id=>
  cases m<;>simp only[ZfL] at h
  ·exact(aa h).elim
  ·cases h;simp[ZbK] at hk
theorem ZsH {hp:Hp} {m:Nat→Bool}:∀ {xs ys:List AV} (i:Nat),args hp m i xs=some ys→∀ y∈ys,∀ k∈ZbK y,∃ x∈xs,k∈ZbK x
 | [],ys,i,h,y,hy,k,hk=>by simp only[args] at h;cases h;simp at hy
 | x :: xs,ys,i,h,y,hy,k,hk=>by
  simp only[args] at h;obtain⟨a,h1,h⟩:=Za h;obtain⟨as,h2,h⟩:=Za h;cases h;rcases Kd.1 hy with rfl | hy
  ·exact⟨x,by simp,ZzG h1 k hk⟩
  ·obtain⟨x',h3,h4⟩:=ZsH (i+1) h2 y hy k hk;exact⟨x',by simp[h3],h4⟩
theorem ZoQ {x:AV}:∀ id∈Zck x,id∈Zn x:=by
 intro id h;cases x<;>simp[Zck] at h<;>simp[Zn,h]
theorem ZvA {x:AV}:∀ id∈ZfB x,id∈ZD x:=by
 intro id h;cases x<;>simp only[ZfB] at h<;>first | exact ZoQ id h | (simp[Zck] at h;done) | skip
 case agg cs=>
  obtain⟨c,h1,h2⟩:=Ky.1 h;exact Ky.2 ⟨c,h1,ZoQ id h2⟩
theorem ZmF:∀ {xs ys:List AV},∀ i∈YY xs ys,∃ x∈xs,i∈ZD x
 | [],ys,i,h=>by cases ys<;>simp[YY] at h
 | x :: xs,[],i,h=>by simp[YY] at h
 | x :: xs,y :: ys,i,h=>by
  have aa:i∈YY xs ys→∃ x'∈x :: xs,i∈ZD x':=fun h=>by
   obtain⟨x',h1,h2⟩:=ZmF i h;exact⟨x',by simp[h1],h2⟩
  rw[Zmp] at h;rcases Kg.1 h with h | h
  ·cases y<;>simp only[Zyv] at h<;>first | (simp at h;done) | exact⟨x,by simp,ZvA i h⟩
  ·exact aa h
theorem ZzH {C:Orc} {m:Nat→Bool} {hp:Hp} {base f:Nat} {ad:List AV} {ce:Zd} (h:Zcn C m hp base f ad=some ce) :
  ce.eff.dels=[]∧(∀ i∈ce.eff.frz,∃ a∈ad,i∈ZD a)∧(∀ i∈ce.gone,∃ o,lkp hp i=some o)∧(∀ k o,(k,o)∈ce.eff.sets→(∃ o,lkp hp k=some o)∧(k∈ce.gone∨∃ a∈ad,k∈ZbK a)):=by
 unfold Zcn at h;obtain⟨as,h1,h⟩:=Za h;unfold ZdY at h;split at h
 ·rename_i hc;obtain⟨⟨r,out⟩,h2,h⟩:=Za h;unfold J8 at h;split at h
  ·cases h
  split at h
  ·cases h
  ·cases h;obtain⟨_,_,ab⟩:=ZbI hp (Xd hp) (as.flatMap ZD) [] List.nodup_nil;have aa : ∀ id∈QM hp (Xd hp) (as.flatMap ZD) [],∃ o,lkp hp id=some o:=fun id af=>(ab id af).resolve_left (by simp);refine⟨rfl,fun i hi=>?_,fun i hi=>?_,fun k o hk=>?_⟩
   ·simp only at hi;split at hi
    ·simp at hi
    ·exact ZmF i hi
   ·exact aa i (List.mem_filter.1 hi).1
   ·obtain⟨q,o0,h3,_,_⟩:=ZfF _ _ _ _ _ hk;have ae:=Kc h3;refine⟨aa k ae,?_⟩;have:=KT.1 hc.2.2 k ae;simp only[Lk,KU,Ko] at this;rcases this with h4 | h4
    ·exact .inl (List.mem_filter.2 ⟨ae,h4⟩)
    ·obtain⟨y,h5,h6⟩:=Ky.1 h4;exact .inr (ZsH 0 h1 y h5 k h6)
 ·cases h
theorem Zg2:∀ {l:Hp} {hp:Hp} {k:Nat} {o:Zm},(∃ o',(k,o')∈l)→lkp (Zh hp l) k=some o→(k,o)∈l
 | [],hp,k,o,h,_=>by obtain⟨o',h⟩:=h;simp at h
 | (a,x) :: r,hp,k,o,h,hl=>by
  simp only[Zh] at hl;by_cases h1:∃ o',(k,o')∈r
  ·exact KA _ (Zg2 h1 hl)
  ·rw[Zy r _ k fun o' aa=>h1 ⟨o',aa⟩,Qm] at hl;obtain⟨o',h2⟩:=h;rcases Kd.1 h2 with h2 | h2
   ·cases h2;rw[Kh rfl] at hl;cases hl;exact K5 ..
   ·exact absurd ⟨o',h2⟩ h1
theorem Zc1:∀ {l:Hp} {hp hp' : Hp} {k:Nat},(∃ o',(k,o')∈l)→lkp (Zh hp l) k=lkp (Zh hp' l) k
 | [],hp,hp',k,h=>by obtain⟨o',h⟩:=h;simp at h
 | (a,x) :: r,hp,hp',k,h=>by
  simp only[Zh];by_cases h1:∃ o',(k,o')∈r
  ·exact Zc1 h1
  ·rw[Zy r _ k fun o' aa=>h1 ⟨o',aa⟩,Zy r _ k fun o' aa=>h1 ⟨o',aa⟩,Qm,Qm];obtain⟨o',h2⟩:=h;rcases Kd.1 h2 with h2 | h2
   ·cases h2;simp
   ·exact absurd ⟨o',h2⟩ h1
theorem Za5:∀ (l:Hp) {hp hp' : Hp} {k:Nat},lkp hp k=lkp hp' k→lkp (Zh hp l) k=lkp (Zh hp' l) k
 | [],hp,hp',k,h=>h
 | (a,x) :: r,hp,hp',k,h=>by
  simp only[Zh];exact Za5 r (by rw[Qm,Qm,h])
theorem ZyD {ce:Zd} {dX dY:Option Nat} {v:AV} {ax:Hp} {s:Sl×Hp} (hd:Zba dX dY=true) (aa:ce.eff.dels=[])
  (h1:∀ k o,(k,o)∈ax→(∀ o',(k,o')∉ce.eff.sets)∧(∀ o',(k,o')∉ce.eff.adds)∧k∉ce.eff.frz) (h2:∀ k o,(k,o)∈ax→XZ ce.gone o=o) (hv:kill ce.gone v=v) :
  X0 (Zt (ce.on dY s.1 s.2).1 dX v,Zh (ce.on dY s.1 s.2).2 ax) (ce.on dY (Zt s.1 dX v) (Zh s.2 ax)):=by
 refine⟨fun t=>?_,fun k=>?_⟩
 ·show gs (Zt (Zt (Xe ce.gone s.1) dY ce.eff.val) dX v) t=gs (Zt (Xe ce.gone (Zt s.1 dX v)) dY ce.eff.val) t;simp only[Qz,QX];by_cases hx:dX=some t
  ·have hy:¬dY=some t:=fun e=>by rw[hx,e] at hd;simp[Zba] at hd
   simp[hx,hy,hv]
  ·simp[hx]
 ·show lkp (Zh (ce.eff.on (Ve ce.gone s.2)) ax) k=lkp (ce.eff.on (Ve ce.gone (Zh s.2 ax))) k;unfold Eff.on;rw[aa];simp only[Qs];by_cases hk:∃ o,(k,o)∈ax
  ·obtain⟨o,ho⟩:=hk;obtain⟨g1,g2,g3⟩:=h1 k o ho;rw[Zy _ (Zh (Qi ce.eff.frz (Ve ce.gone (Zh s.2 ax))) ce.eff.sets) k g2,Zy _ (Qi ce.eff.frz (Ve ce.gone (Zh s.2 ax))) k g1];rw[Qd,VI];rw[Zc1 (hp':=s.2) ⟨o,ho⟩];cases hl:lkp (Zh s.2 ax) k with
   | none=>rfl
   | some o' =>
    have:=h2 k o' (Zg2 ⟨o,ho⟩ hl);simp[this,g3]
  ·have ab : ∀ o,(k,o)∉ax:=fun o ho=>hk ⟨o,ho⟩;rw[Zy ax _ k ab];refine Za5 _ (Za5 _ ?_);rw[Qd,Qd,VI,VI,Zy ax _ k ab]
structure Zlj (ce:Zd):Prop where
 gone:ce.gone=[]
 sets:ce.eff.sets=[]
 dels:ce.eff.dels=[]
 frz:ce.eff.frz=[]
theorem ZvB {ce:Zd} (h:Zlj ce) (d:Option Nat) (s:Sl×Hp):ce.on d s.1 s.2=(Zt s.1 d ce.eff.val,Zh s.2 ce.eff.adds):=by
 unfold Zd.on Eff.on;rw[h.gone,h.sets,h.dels,h.frz];rfl
theorem Zxp {C:Orc} {M:Zp} {nx i:Nat} {o:CO} {s s' : Sl×Hp} (h:ZO C M nx i false o s=some s') :
  (Z6 s.1 o.guard=some false∧s'=(Zt s.1 o.dst (.tup []),s.2)) ∨
  (Z6 s.1 o.guard=some true∧∃ ce,Zlj ce∧vop C M s.1 s.2 (nx+64*i) o.op=some ce∧QZ (nx+64*i) (nx+64*i+64) ce.eff.adds=true∧s'=(Zt s.1 o.dst ce.eff.val,Zh s.2 ce.eff.adds)):=by
 unfold ZO at h;obtain⟨b,hw,h⟩:=Za h;cases b with
 | true=>
  simp only[Km] at h;obtain⟨ce,h1,h2,rfl⟩:=Q7 h;unfold WR at h1;simp only[Ka,Kq] at h1;unfold Zdj at h1;obtain⟨c,h3,h1⟩:=Za h1;unfold ZfW at h1;split at h1
  ·rename_i e1 e2 e3 e4;cases h1;have hq:Zlj ce:=⟨e1,e2,e3,e4⟩
   exact .inr ⟨hw,ce,hq,h3,h2,ZvB hq _ s⟩
  ·cases h1
 | false=>
  simp only[Ka,Kq] at h;cases h;exact .inl ⟨hw,rfl⟩
theorem Zh3 {C:Orc} {M:Zp} {nx i:Nat} {o:CO} {s:Sl×Hp} {ce:Zd} (hw:Z6 s.1 o.guard=some true) (hq:Zlj ce) (hv:vop C M s.1 s.2 (nx+64*i) o.op=some ce) (hk:QZ (nx+64*i) (nx+64*i+64) ce.eff.adds=true) :
  ZO C M nx i false o s=some (Zt s.1 o.dst ce.eff.val,Zh s.2 ce.eff.adds):=by
 unfold ZO;rw[hw,Zg];simp only[Km];unfold YQ WR;simp only[Ka,Kq];rw[hv];simp only[Zdj,Zg,hq.gone,hq.sets,hq.dels,hq.frz,ZfW];rw[Kh hk,ZvB hq _ s]
theorem YN {C:Orc} {M:Zp} {nx i:Nat} {t:Bool} {o:CO} {s:Sl×Hp} (hw:Z6 s.1 o.guard=some false):ZO C M nx i t o s=some (Zt s.1 o.dst (.tup []),s.2):=by
 unfold ZO;rw[hw,Zg];rfl
theorem Zh4 {sl sl' : Sl} {g:List Nat} {gd:Option (Nat×Bool)} (h:∀ q,gd=some q→gs sl' q.1=kill g (gs sl q.1)):Z6 sl' gd=Z6 sl gd:=by
 cases gd with
 | none=>rfl
 | some q=>
  simp only[Z6,h q rfl];cases gs sl q.1 with
  | d x=>rfl
  | tup vs=>cases vs<;>rfl
  | ptr a b=>simp only[kill,ZV,Qf];split<;>rfl
  | prow a b c d=>simp only[kill,ZV,Qf];split<;>rfl
  | own a=>simp only[kill,ZV,Qf];split<;>rfl
  | ownv a b c=>simp only[kill,ZV,Qf];split<;>rfl
  | sub a b=>simp only[kill,ZV,Qf];split<;>rfl
  | bnil a b=>simp only[kill,ZV,Qf];split<;>rfl
  | _=>rfl
end Go.Abs
