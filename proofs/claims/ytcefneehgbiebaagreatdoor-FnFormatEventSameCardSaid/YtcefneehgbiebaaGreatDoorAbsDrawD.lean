/- Own text. -/
import Derived.Test.YtcefneehgbiebaaGreatDoorAbsDrawC
set_option linter.unusedVariables false
set_option linter.unusedSimpArgs false
namespace Go.Abs
open Go
theorem Zyo {hp:Hp} {m:Bool} {x y:AV} (h:ZdG hp m x=some y):∀ k∈Zbh y,k∈Zbh x:=by
 intro k hk;have aa:∀ {r:Option D},asD r=some y→False:=fun {r} h=>by
  obtain⟨d,_,h⟩:=Za h;cases h;simp[Zbh] at hk
 cases x<;>simp only[ZdG] at h<;>first | (exact(aa h).elim) | skip
 case d d=>cases h;simp[Zbh] at hk
 case nil=>cases m<;>simp only[ZgC] at h<;>(cases h;simp[Zbh] at hk)
 case nilp=>cases h;exact hk
 case nili=>cases h;exact hk
 case ptr a b=>cases h;exact hk
 case pim c=>cases h;exact hk
 case clo f c=>cases h;exact hk
 case own id=>
  cases m<;>simp only[Zfb] at h
  ·exact(aa h).elim
  ·cases h;simp[Zbh] at hk
theorem ZrG {hp:Hp} {m:Nat→Bool}:∀ {xs ys:List AV} (i:Nat),args hp m i xs=some ys→∀ y∈ys,∀ k∈Zbh y,∃ x∈xs,k∈Zbh x
 | [],ys,i,h,y,hy,k,hk=>by simp only[args] at h;cases h;simp at hy
 | x :: xs,ys,i,h,y,hy,k,hk=>by
  simp only[args] at h;obtain⟨a,h1,h⟩:=Za h;obtain⟨as,h2,h⟩:=Za h;cases h;rcases Kf.1 hy with rfl | hy
  ·exact⟨x,by simp,Zyo h1 k hk⟩
  ·obtain⟨x',h3,h4⟩:=ZrG (i+1) h2 y hy k hk;exact⟨x',by simp[h3],h4⟩
theorem ZnZ {x:AV}:∀ id∈ZbO x,id∈Zm x:=by
 intro id h;cases x<;>simp[ZbO] at h<;>simp[Zm,h]
theorem Zuv {x:AV}:∀ id∈ZeZ x,id∈ZB x:=by
 intro id h;cases x<;>simp only[ZeZ] at h<;>first | exact ZnZ id h | (simp[ZbO] at h;done) | skip
 case agg cs=>
  obtain⟨c,h1,h2⟩:=Kv.1 h;exact Kv.2 ⟨c,h1,ZnZ id h2⟩
theorem ZlV:∀ {xs ys:List AV},∀ i∈YN xs ys,∃ x∈xs,i∈ZB x
 | [],ys,i,h=>by cases ys<;>simp[YN] at h
 | x :: xs,[],i,h=>by simp[YN] at h
 | x :: xs,y :: ys,i,h=>by
  have aa:i∈YN xs ys→∃ x'∈x :: xs,i∈ZB x':=fun h=>by
   obtain⟨x',h1,h2⟩:=ZlV i h;exact⟨x',by simp[h1],h2⟩
  rw[ZlF] at h;rcases Kg.1 h with h | h
  ·cases y<;>simp only[Zxi] at h<;>first | (simp at h;done) | exact⟨x,by simp,Zuv i h⟩
  ·exact aa h
theorem Zyp {C:Orc} {m:Nat→Bool} {hp:Hp} {base f:Nat} {ad:List AV} {ce:Zd} (h:ZbR C m hp base f ad=some ce) :
  ce.eff.dels=[]∧(∀ i∈ce.eff.frz,∃ a∈ad,i∈ZB a)∧(∀ i∈ce.gone,∃ o,lkp hp i=some o)∧(∀ k o,(k,o)∈ce.eff.sets→(∃ o,lkp hp k=some o)∧(k∈ce.gone∨∃ a∈ad,k∈Zbh a)):=by
 unfold ZbR at h;obtain⟨as,h1,h⟩:=Za h;unfold Zdl at h;split at h
 ·rename_i hc;obtain⟨⟨r,out⟩,h2,h⟩:=Za h;unfold JE at h;split at h
  ·cases h
  split at h
  ·cases h
  ·cases h;obtain⟨_,_,ab⟩:=Zbf hp (Q9 hp) (as.flatMap ZB) [] List.nodup_nil;have aa : ∀ id∈QL hp (Q9 hp) (as.flatMap ZB) [],∃ o,lkp hp id=some o:=fun id af=>(ab id af).resolve_left (by simp);refine⟨rfl,fun i hi=>?_,fun i hi=>?_,fun k o hk=>?_⟩
   ·simp only at hi;split at hi
    ·simp at hi
    ·exact ZlV i hi
   ·exact aa i (List.mem_filter.1 hi).1
   ·obtain⟨q,o0,h3,_,_⟩:=Ze3 _ _ _ _ _ hk;have ae:=Kc h3;refine⟨aa k ae,?_⟩;have:=KP.1 hc.2.2 k ae;simp only[Le,KQ,Kn] at this;rcases this with h4 | h4
    ·exact .inl (List.mem_filter.2 ⟨ae,h4⟩)
    ·obtain⟨y,h5,h6⟩:=Kv.1 h4;exact .inr (ZrG 0 h1 y h5 k h6)
 ·cases h
theorem Zgu:∀ {l:Hp} {hp:Hp} {k:Nat} {o:Zl},(∃ o',(k,o')∈l)→lkp (Zh hp l) k=some o→(k,o)∈l
 | [],hp,k,o,h,_=>by obtain⟨o',h⟩:=h;simp at h
 | (a,x) :: r,hp,k,o,h,hl=>by
  simp only[Zh] at hl;by_cases h1:∃ o',(k,o')∈r
  ·exact Kz _ (Zgu h1 hl)
  ·rw[Zv r _ k fun o' aa=>h1 ⟨o',aa⟩,Qh] at hl;obtain⟨o',h2⟩:=h;rcases Kf.1 h2 with h2 | h2
   ·cases h2;rw[Ki rfl] at hl;cases hl;exact KX ..
   ·exact absurd ⟨o',h2⟩ h1
theorem Zcq:∀ {l:Hp} {hp hp' : Hp} {k:Nat},(∃ o',(k,o')∈l)→lkp (Zh hp l) k=lkp (Zh hp' l) k
 | [],hp,hp',k,h=>by obtain⟨o',h⟩:=h;simp at h
 | (a,x) :: r,hp,hp',k,h=>by
  simp only[Zh];by_cases h1:∃ o',(k,o')∈r
  ·exact Zcq h1
  ·rw[Zv r _ k fun o' aa=>h1 ⟨o',aa⟩,Zv r _ k fun o' aa=>h1 ⟨o',aa⟩,Qh,Qh];obtain⟨o',h2⟩:=h;rcases Kf.1 h2 with h2 | h2
   ·cases h2;simp
   ·exact absurd ⟨o',h2⟩ h1
theorem Zaz:∀ (l:Hp) {hp hp' : Hp} {k:Nat},lkp hp k=lkp hp' k→lkp (Zh hp l) k=lkp (Zh hp' l) k
 | [],hp,hp',k,h=>h
 | (a,x) :: r,hp,hp',k,h=>by
  simp only[Zh];exact Zaz r (by rw[Qh,Qh,h])
theorem Zxq {ce:Zd} {dX dY:Option Nat} {v:AV} {ax:Hp} {s:Sl×Hp} (hd:ZaF dX dY=true) (aa:ce.eff.dels=[])
  (h1:∀ k o,(k,o)∈ax→(∀ o',(k,o')∉ce.eff.sets)∧(∀ o',(k,o')∉ce.eff.adds)∧k∉ce.eff.frz) (h2:∀ k o,(k,o)∈ax→XV ce.gone o=o) (hv:kill ce.gone v=v) :
  XW (Zp (ce.on dY s.1 s.2).1 dX v,Zh (ce.on dY s.1 s.2).2 ax) (ce.on dY (Zp s.1 dX v) (Zh s.2 ax)):=by
 refine⟨fun t=>?_,fun k=>?_⟩
 ·show gs (Zp (Zp (Xa ce.gone s.1) dY ce.eff.val) dX v) t=gs (Zp (Xa ce.gone (Zp s.1 dX v)) dY ce.eff.val) t;simp only[Qw,QQ];by_cases hx:dX=some t
  ·have hy:¬dY=some t:=fun e=>by rw[hx,e] at hd;simp[ZaF] at hd
   simp[hx,hy,hv]
  ·simp[hx]
 ·show lkp (Zh (ce.eff.on (Y4 ce.gone s.2)) ax) k=lkp (ce.eff.on (Y4 ce.gone (Zh s.2 ax))) k;unfold Eff.on;rw[aa];simp only[Qm];by_cases hk:∃ o,(k,o)∈ax
  ·obtain⟨o,ho⟩:=hk;obtain⟨g1,g2,g3⟩:=h1 k o ho;rw[Zv _ (Zh (Qc ce.eff.frz (Y4 ce.gone (Zh s.2 ax))) ce.eff.sets) k g2,Zv _ (Qc ce.eff.frz (Y4 ce.gone (Zh s.2 ax))) k g1];rw[Z8,Vv];rw[Zcq (hp':=s.2) ⟨o,ho⟩];cases hl:lkp (Zh s.2 ax) k with
   | none=>rfl
   | some o' =>
    have:=h2 k o' (Zgu ⟨o,ho⟩ hl);simp[this,g3]
  ·have ab : ∀ o,(k,o)∉ax:=fun o ho=>hk ⟨o,ho⟩;rw[Zv ax _ k ab];refine Zaz _ (Zaz _ ?_);rw[Z8,Z8,Vv,Vv,Zv ax _ k ab]
structure ZkD (ce:Zd):Prop where
 gone:ce.gone=[]
 sets:ce.eff.sets=[]
 dels:ce.eff.dels=[]
 frz:ce.eff.frz=[]
theorem Zuw {ce:Zd} (h:ZkD ce) (d:Option Nat) (s:Sl×Hp):ce.on d s.1 s.2=(Zp s.1 d ce.eff.val,Zh s.2 ce.eff.adds):=by
 unfold Zd.on Eff.on;rw[h.gone,h.sets,h.dels,h.frz];rfl
theorem Zwc {C:Orc} {M:Zn} {nx i:Nat} {o:CO} {s s' : Sl×Hp} (h:ZM C M nx i false o s=some s') :
  (Z3 s.1 o.guard=some false∧s'=(Zp s.1 o.dst (.tup []),s.2)) ∨
  (Z3 s.1 o.guard=some true∧∃ ce,ZkD ce∧vop C M s.1 s.2 (nx+64*i) o.op=some ce∧QT (nx+64*i) (nx+64*i+64) ce.eff.adds=true∧s'=(Zp s.1 o.dst ce.eff.val,Zh s.2 ce.eff.adds)):=by
 unfold ZM at h;obtain⟨b,hw,h⟩:=Za h;cases b with
 | true=>
  simp only[Km] at h;obtain⟨ce,h1,h2,rfl⟩:=Q3 h;unfold WA at h1;simp only[Ka,Ko] at h1;unfold ZcJ at h1;obtain⟨c,h3,h1⟩:=Za h1;unfold Zfm at h1;split at h1
  ·rename_i e1 e2 e3 e4;cases h1;have hq:ZkD ce:=⟨e1,e2,e3,e4⟩
   exact .inr ⟨hw,ce,hq,h3,h2,Zuw hq _ s⟩
  ·cases h1
 | false=>
  simp only[Ka,Ko] at h;cases h;exact .inl ⟨hw,rfl⟩
theorem Zhu {C:Orc} {M:Zn} {nx i:Nat} {o:CO} {s:Sl×Hp} {ce:Zd} (hw:Z3 s.1 o.guard=some true) (hq:ZkD ce) (hv:vop C M s.1 s.2 (nx+64*i) o.op=some ce) (hk:QT (nx+64*i) (nx+64*i+64) ce.eff.adds=true) :
  ZM C M nx i false o s=some (Zp s.1 o.dst ce.eff.val,Zh s.2 ce.eff.adds):=by
 unfold ZM;rw[hw,Zg];simp only[Km];unfold YH WA;simp only[Ka,Ko];rw[hv];simp only[ZcJ,Zg,hq.gone,hq.sets,hq.dels,hq.frz,Zfm];rw[Ki hk,Zuw hq _ s]
theorem YE {C:Orc} {M:Zn} {nx i:Nat} {t:Bool} {o:CO} {s:Sl×Hp} (hw:Z3 s.1 o.guard=some false):ZM C M nx i t o s=some (Zp s.1 o.dst (.tup []),s.2):=by
 unfold ZM;rw[hw,Zg];rfl
theorem Zhv {sl sl' : Sl} {g:List Nat} {gd:Option (Nat×Bool)} (h:∀ q,gd=some q→gs sl' q.1=kill g (gs sl q.1)):Z3 sl' gd=Z3 sl gd:=by
 cases gd with
 | none=>rfl
 | some q=>
  simp only[Z3,h q rfl];cases gs sl q.1 with
  | d x=>rfl
  | tup vs=>cases vs<;>rfl
  | ptr a b=>simp only[kill,ZT,Qa];split<;>rfl
  | prow a b c d=>simp only[kill,ZT,Qa];split<;>rfl
  | own a=>simp only[kill,ZT,Qa];split<;>rfl
  | ownv a b c=>simp only[kill,ZT,Qa];split<;>rfl
  | sub a b=>simp only[kill,ZT,Qa];split<;>rfl
  | bnil a b=>simp only[kill,ZT,Qa];split<;>rfl
  | _=>rfl
end Go.Abs
